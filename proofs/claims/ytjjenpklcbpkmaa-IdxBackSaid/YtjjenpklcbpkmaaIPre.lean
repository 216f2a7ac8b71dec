/-
  The keys that begin with some bytes: plain laws; strings.HasPrefix; lists of strings held against each other.
-/
import Derived.Test.YtjjenpklcbpkmaaIIFd
namespace Go.Proofs.Ytjjenpklcbpkmaa
open Go.RowKit Go.Proofs.Mem
set_option linter.unusedVariables false

def pre (k t : ByteArray) : Bool := decide (t.size ≤ k.size) && decide (k.extract 0 t.size = t)
theorem pre_iff {k t : ByteArray} : pre k t = true ↔ ∃ r, k.toList = t.toList ++ r := by
  unfold pre
  rw [Bool.and_eq_true, decide_eq_true_eq, decide_eq_true_eq, Lib.toList_data, Lib.toList_data]
  constructor
  · rintro ⟨h1, h2⟩
    refine ⟨k.data.toList.drop t.size, ?_⟩
    have h3 : t.data.toList = k.data.toList.take t.size := by
      conv => lhs; rw [← h2]
      rw [ByteArray.data_extract, Array.toList_extract, List.extract_eq_take_drop]
      simp
    rw [h3, List.take_append_drop]
  · rintro ⟨r, hr⟩
    have hl : t.size ≤ k.size := by
      have := congrArg List.length hr
      rw [List.length_append, Array.length_toList, Array.length_toList] at this
      show t.data.size ≤ k.data.size
      omega
    refine ⟨hl, bytes_of_list ?_⟩
    rw [Lib.toList_data, Lib.toList_data, ByteArray.data_extract, Array.toList_extract, List.extract_eq_take_drop, hr]
    have hs : t.data.toList.length = t.size := by rw [Array.length_toList]; rfl
    rw [List.drop_zero, Nat.sub_zero, List.take_append_of_le_length (by omega), List.take_of_length_le (by omega)]
theorem bl_pre : ∀ (t r : List UInt8), Op.bytesLess (t ++ r) t = false
  | [], r => by cases r <;> rfl
  | a :: t, r => by
    rw [List.cons_append]
    unfold Op.bytesLess
    rw [bl_pre t r]
    simp
theorem bl_between : ∀ {t a r : List UInt8}, Op.bytesLess a t = false → Op.bytesLess a (t ++ r) = true → ∃ q, a = t ++ q
  | [], a, r, _, _ => ⟨a, rfl⟩
  | x :: t, [], r, h, _ => by simp [Op.bytesLess] at h
  | x :: t, y :: a, r, h1, h2 => by
    rw [List.cons_append] at h2
    unfold Op.bytesLess at h1 h2
    rw [Bool.or_eq_false_iff, Bool.and_eq_false_iff, decide_eq_false_iff_not, beq_eq_false_iff_ne] at h1
    rw [Bool.or_eq_true, Bool.and_eq_true, decide_eq_true_eq, beq_iff_eq] at h2
    rcases h2 with h2 | ⟨rfl, h2⟩
    · exact absurd h2 h1.1
    · obtain ⟨q, rfl⟩ := bl_between (h1.2.resolve_left (fun h => h rfl)) h2
      exact ⟨q, rfl⟩
theorem pre_not_lt {k t : ByteArray} (h : pre k t = true) : ltB k t = false := by
  obtain ⟨r, hr⟩ := pre_iff.1 h
  unfold ltB
  rw [hr]
  exact bl_pre _ _
theorem pre_between {a b t : ByteArray} (h1 : ltB a t = false) (h2 : ltB a b = true) (h3 : pre b t = true) : pre a t = true := by
  obtain ⟨r, hr⟩ := pre_iff.1 h3
  unfold ltB at h1 h2
  rw [hr] at h2
  exact pre_iff.2 (bl_between h1 h2)

def underL (l : List Slt) (t : ByteArray) : List ByteArray := (l.filter fun x => pre x.k t).map (·.k)
theorem under_part {l : List Slt} (h : Rises l) (t : ByteArray) {F i : Nat} (hF : F = firstN l t) (hFi : F ≤ i) (hil : i ≤ l.length)
    (hin : ∀ (j : Nat) (x : Slt), F ≤ j → j < i → l[j]? = some x → pre x.k t = true) (hend : ∀ x, l[i]? = some x → pre x.k t = false) :
    underL l t = ((l.take i).drop F).map (·.k) := by
  have e : l = l.take F ++ ((l.take i).drop F ++ l.drop i) := by
    rw [← List.append_assoc]
    have h1 : l.take F = (l.take i).take F := by rw [List.take_take, Nat.min_eq_left hFi]
    rw [h1, List.take_append_drop, List.take_append_drop]
  unfold underL
  congr 1
  conv => lhs; rw [e]
  rw [List.filter_append, List.filter_append]
  have f1 : (l.take F).filter (fun x => pre x.k t) = [] := by
    rw [List.filter_eq_nil_iff]
    intro x hx hp
    obtain ⟨j, hj, rfl⟩ := List.getElem_of_mem hx
    rw [List.length_take] at hj
    have hjj : l[j]? = some (l.take F)[j] := by rw [← List.getElem?_eq_getElem, List.getElem?_take, if_pos (by omega)]
    have := (first_iff h t hjj).1 (by omega)
    rw [pre_not_lt hp] at this
    cases this
  have f2 : ((l.take i).drop F).filter (fun x => pre x.k t) = (l.take i).drop F := by
    rw [List.filter_eq_self]
    intro x hx
    obtain ⟨j, hj, rfl⟩ := List.getElem_of_mem hx
    rw [List.length_drop, List.length_take] at hj
    refine hin (F + j) _ (by omega) (by omega) ?_
    rw [← List.getElem?_eq_getElem, List.getElem?_drop, List.getElem?_take, if_pos (by omega)]
  have f3 : (l.drop i).filter (fun x => pre x.k t) = [] := by
    rw [List.filter_eq_nil_iff]
    intro x hx hp
    obtain ⟨j, hj, rfl⟩ := List.getElem_of_mem hx
    rw [List.length_drop] at hj
    have hjj : l[i + j]? = some (l.drop i)[j] := by rw [← List.getElem?_eq_getElem, List.getElem?_drop]
    have hii : l[i]? = some l[i] := List.getElem?_eq_getElem (by omega)
    have hne := hend _ hii
    rcases rises_le h (Nat.le_add_right i j) hii hjj with he | hlt
    · rw [← he, hne] at hp; cases hp
    · have hge : ltB l[i].k t = false := by
        cases hb : ltB l[i].k t with
        | false => rfl
        | true =>
          have := (first_iff h t hii).2 hb
          omega
      rw [pre_between hge hlt hp] at hne
      cases hne
  rw [f1, f2, f3]
  simp

theorem slpre_any (k t : ByteArray) (w : World) (hk : k.size ≤ 9223372036854775807) (ht : t.size ≤ 9223372036854775807) :
    Calls Try.prog 54 #[.string k, .string t] w fun e w' => e = .returned (.bool (pre k t)) ∧ w' = w := by
  unfold pre
  by_cases h : t.size ≤ k.size
  · rw [decide_eq_true h, Bool.true_and]
    have h1 : (t.size : Int) ≤ (k.size : Int) := by omega
    have hq : ((k.extract 0 t.size).toList == t.toList) = decide (k.extract 0 t.size = t) := beq_list _ _
    generalize decide (k.extract 0 t.size = t) = r at *
    go_enter Try.func54, Try.ntmps54
    go_wp2_with fail
    go_ret
    exact ⟨rfl, rfl⟩
  · rw [decide_eq_false h, Bool.false_and]
    have h1 : ((t.size : Int) ≤ (k.size : Int)) = False := by simp; omega
    go_enter Try.func54, Try.ntmps54
    go_wp2_with fail
    go_ret
    exact ⟨rfl, rfl⟩
theorem hpre_any (k t : ByteArray) (w : World) (hk : k.size ≤ 9223372036854775807) (ht : t.size ≤ 9223372036854775807) :
    Calls Try.prog 44 #[.string k, .string t] w fun e w' => e = .returned (.bool (pre k t)) ∧ w' = w := by
  have HC := Lib.hid (fun W => slpre_any k t W hk ht)
  generalize pre k t = r at *
  go_enter Try.func44, Try.ntmps44
  go_wp2_with (go_at_call 54; refine Calls.mono (HC.out _) ?_; rintro e w1 ⟨rfl, rfl⟩)
  go_ret
  exact ⟨rfl, rfl⟩

theorem takeb_same {a b : List ByteArray} {k : Nat} {x : ByteArray} (h : a.take k = b.take k) (ha : a[k]? = some x) (hb : b[k]? = some x) : a.take (k + 1) = b.take (k + 1) := by
  rw [List.take_add_one, List.take_add_one, h, ha, hb]

set_option maxHeartbeats 1000000 in
theorem r5same_any (u v : Value) (a b : List ByteArray) (w : World) (ha : Strs w w.heap.size u a) (hb : Strs w w.heap.size v b) :
    Calls Try.prog 17 #[u, v] w fun e w' => e = .returned (.bool (decide (a = b))) ∧ Below w.heap.size w w' := by
  obtain ⟨A1, c1, rfl, hc1, hm1, hR1⟩ := ha
  obtain ⟨A2, c2, rfl, hc2, hm2, hR2⟩ := hb
  have hl1 : a.length ≤ 9223372036854775807 := by unfold maxLen at hm1; omega
  have hl2 : b.length ≤ 9223372036854775807 := by unfold maxLen at hm2; omega
  have HR1 := Lib.hid hR1
  have HR2 := Lib.hid hR2
  clear hR1 hR2 hc1 hm1 hc2 hm2
  by_cases hl : a.length = b.length
  case neg =>
    rw [decide_eq_false (fun h => hl (congrArg List.length h))]
    have hq : ((a.length : Int) != (b.length : Int)) = true := by simp; omega
    clear hl
    go_enter Try.func17, Try.ntmps17
    go_wp2_with fail
    go_ret
    exact ⟨rfl, Below.refl _ _⟩
  have hq : ((a.length : Int) != (b.length : Int)) = false := by simp; omega
  have HL := Lib.hid hl
  obtain ⟨r, hr⟩ : ∃ r, r = decide (a = b) := ⟨_, rfl⟩
  rw [← hr]
  have HRR := Lib.hid hr
  clear hr hl
  go_enter Try.func17, Try.ntmps17
  go_wp2_with fail
  go_loopw [5] (fun q wr => ∃ k : Nat, q = .int .i64 k ∧ k ≤ a.length ∧ Hid (a.take k = b.take k) ∧ Hid (Below w.heap.size w wr)) (fun q _ => a.length + 1 - (intOf q).toNat)
  case atStart => exact ⟨0, rfl, Nat.zero_le _, Lib.hid rfl, Lib.hid (Below.refl _ _)⟩
  case round =>
    obtain ⟨k, rfl, hk, hE, hB⟩ := hrel
    by_cases hlt : k < a.length
    · obtain ⟨x, hx⟩ : ∃ x, a[k]? = some x := ⟨a[k], List.getElem?_eq_getElem hlt⟩
      obtain ⟨y, hy⟩ : ∃ y, b[k]? = some y := ⟨b[k]'(by have := HL.out; omega), List.getElem?_eq_getElem (by have := HL.out; omega)⟩
      obtain ⟨b1, o1, rfl, hb1, q0⟩ := HR1.out.at_ (by rw [List.length_map]; omega)
      obtain ⟨b2, o2, rfl, hb2, r0⟩ := HR2.out.at_ (by rw [List.length_map]; have := HL.out; omega)
      have p0 := (hB.out.cell (p := ⟨b1, o1 + k, none⟩) hb1).trans (q0 k (.string x) (by rw [List.getElem?_map, hx]; rfl))
      have s0 := (hB.out.cell (p := ⟨b2, o2 + k, none⟩) hb2).trans (r0 k (.string y) (by rw [List.getElem?_map, hy]; rfl))
      have i1 : (k : Int) < (a.length : Int) := by omega
      have i2 : (k : Int) < (b.length : Int) := by have := HL.out; omega
      have i0 : (0 : Int) ≤ (k : Int) := by omega
      have HX := Lib.hid hx
      have HY := Lib.hid hy
      clear q0 r0 hx hy
      by_cases ek : x = y
      case neg =>
        have d0 : (x.toList == y.toList) = false := by rw [beq_list, decide_eq_false ek]
        have HNE : Hid (¬ x = y) := Lib.hid ek
        clear ek
        go_wp2_with fail
        go_quiet (fail)
        go_wp2_with fail
        go_ret
        refine ⟨?_, bel hB.out (by go_grown; all_goals (refine below_drewN ?_ _; go_grown))⟩
        rw [HRR.out, decide_eq_false (fun e => HNE.out (by
          have h1 := HX.out
          rw [e, HY.out] at h1
          exact (Option.some.inj h1).symm))]
        rfl
      subst ek
      have d0 : (x.toList == x.toList) = true := by rw [beq_list, decide_eq_true rfl]
      go_wp2_with fail
      go_quiet (fail)
      go_wp2_with fail
      go_roundw
      case rel => exact ⟨k + 1, by go_num, by omega, Lib.hid (takeb_same hE.out HX.out HY.out), Lib.hid (bel hB.out (by go_grown; all_goals (refine below_drewN ?_ _; go_grown)))⟩
      case measure => simp [intOf]; omega
    · obtain rfl : k = a.length := by omega
      go_wp2_with fail
      go_ret
      refine ⟨?_, hB.out⟩
      have h1 := hE.out
      rw [List.take_length, HL.out, List.take_length] at h1
      rw [HRR.out, decide_eq_true h1]
      rfl

end Go.Proofs.Ytjjenpklcbpkmaa
