/-
  The keys that begin with some bytes: both packages.
-/
import Derived.Test.YtjjenpklcbpkmaaIPre
namespace Go.Proofs.Ytjjenpklcbpkmaa
open Go.RowKit Go.Proofs.Mem
set_option linter.unusedVariables false

theorem info_str : (Try.prog.info? 9).map (fun i => (i.zero, i.size, i.bytes)) = some (some (.string ⟨#[]⟩), 1, 16) := by kernel_rfl

/-- A row of strings of the call's own. -/
def OwnT (w : World) (B : Nat) (v : Value) (l : List ByteArray) : Prop := w.ownsRow B 9 1 v l.length (l.map .string)
theorem ownt_below {B : Nat} {v : Value} {l : List ByteArray} {w w' : World} (h : OwnT w B v l) (hb : Below w.heap.size w w') : OwnT w' B v l :=
  World.ownsRow.kept (row := none) h ⟨hb.os, hb.tape, hb.output, hb.size, fun k hk _ => hb.block k hk⟩ (Classical.em _)
theorem OwnT.nil (w : World) (B : Nat) : OwnT w B (.slice none 0 0) [] := World.ownsRow_nil _ _ _ _
theorem OwnT.strs {w : World} {B : Nat} {v : Value} {l : List ByteArray} (h : OwnT w B v l) : Strs w w.heap.size v l := strs_of_own h

theorem readL_32 {s : ByteArray} : ∀ x ∈ readL s, x.k.size = 32 := by
  intro x hx
  unfold readL at hx
  split at hx
  · rename_i h
    exact (fit_at (code_zero h).1 hx).1
  · cases hx
theorem readL_rises (s : ByteArray) : Rises (readL s) := by
  unfold readL
  split
  · rename_i h
    exact fit_rises (code_zero h).1
  · intro i j x y _ hx
    simp at hx
theorem readL_len {s : ByteArray} (hs : s.size ≤ 1000000) : (readL s).length ≤ 100000 := by
  unfold readL
  split
  · unfold slotsOf
    rw [slotsN_len]
    unfold countV
    omega
  · exact Nat.zero_le _
theorem under_yes {l : List Slt} {t : ByteArray} {k : Nat} {x : Slt} (hx : l[k]? = some x) (h : pre x.k t = true) : underL (l.take (k + 1)) t = underL (l.take k) t ++ [x.k] := by
  unfold underL
  rw [List.take_add_one, hx, List.filter_append, List.map_append]
  simp [h]
theorem under_no {l : List Slt} {t : ByteArray} {k : Nat} {x : Slt} (hx : l[k]? = some x) (h : pre x.k t = false) : underL (l.take (k + 1)) t = underL (l.take k) t := by
  unfold underL
  rw [List.take_add_one, hx, List.filter_append, List.map_append]
  simp [h]
theorem under_le (l : List Slt) (t : ByteArray) : (underL l t).length ≤ l.length := by
  unfold underL
  rw [List.length_map]
  exact List.length_filter_le _ _

set_option maxRecDepth 100000 in
set_option maxHeartbeats 1000000 in
theorem runder_any (s t : ByteArray) (w : World) (hs : s.size ≤ 1000000) (ht : t.size ≤ 1000000) :
    Calls Try.prog 19 #[.string s, .string t] w fun e w' => ∃ D, e = .returned D ∧ Strs w' w'.heap.size D (underL (readL s) t) ∧ Below w.heap.size w w' := by
  obtain ⟨i0, hi, hz0, hz1, hz2⟩ := info_parts info_str
  have HRD := Lib.hid (fun W => rread_any s W hs)
  have hll := readL_len hs
  have H32 := Lib.hid (@readL_32 s)
  obtain ⟨l, hl⟩ : ∃ l, l = readL s := ⟨_, rfl⟩
  rw [← hl] at HRD hll H32 ⊢
  clear hl hs
  go_enter Try.func19, Try.ntmps19
  go_wp2_with (go_at_call 9
               refine Calls.mono (HRD.out _) ?_
               rintro e w1 ⟨D, rfl, ⟨A, c, rfl, hc1, hc2, hR⟩, hB1⟩
               have HR := Lib.hid hR
               have HB1 := Lib.hid hB1
               have hl1 : l.length ≤ 9223372036854775807 := by omega
               clear hR hB1 hc1 hc2)
  go_loopw [7, 8] (fun o i wr => ∃ k : Nat, i = .int .i64 k ∧ k ≤ l.length ∧ Hid (OwnT wr w1.heap.size o (underL (l.take k) t)) ∧ Hid (Below w1.heap.size w1 wr)) (fun _ i _ => l.length + 1 - (intOf i).toNat)
  case atStart => exact ⟨0, rfl, Nat.zero_le _, Lib.hid (OwnT.nil _ _), Lib.hid (Below.refl _ _)⟩
  case round =>
    obtain ⟨k, rfl, hk, hO, hB⟩ := hrel
    by_cases hlt : k < l.length
    · obtain ⟨x, hx⟩ : ∃ x, l[k]? = some x := ⟨l[k], List.getElem?_eq_getElem hlt⟩
      obtain ⟨b, o, rfl, hb, q0, q1, q2⟩ := row_slot HR.out hx
      have p0 := (hB.out.cell (p := ⟨b, o + k * 3, none⟩) hb).trans q0
      have i1 : (k : Int) < (l.length : Int) := by omega
      have i0' : (0 : Int) ≤ (k : Int) := by omega
      have HX := Lib.hid hx
      have HX32 := Lib.hid (H32.out x (List.mem_of_getElem? hx))
      have hun : (underL (l.take k) t).length ≤ 100000 := by
        have := under_le (l.take k) t
        rw [List.length_take] at this
        omega
      clear q0 q1 q2 hx
      by_cases h32 : t.size ≤ 32
      case neg =>
        have h32' : ((t.size : Int) ≤ 32) = False := by simp; omega
        have HP := Lib.hid (show pre x.k t = false by
          unfold pre
          rw [decide_eq_false (by have := HX32.out; omega)]
          rfl)
        clear h32
        go_wp2_with fail
        go_roundw
        case rel => exact ⟨k + 1, by go_num, by omega, Lib.hid (by rw [under_no HX.out HP.out]; exact hO.out), hB⟩
        case measure => simp [intOf]; omega
      have h32' : (t.size : Int) ≤ 32 := by omega
      have hxs : (t.size : Int) ≤ (x.k.size : Int) := by have := HX32.out; omega
      have hxs2 : t.size ≤ x.k.size := by have := HX32.out; omega
      have hxs3 : (x.k.size : Int) ≤ 32 := by have := HX32.out; omega
      have hpre : pre x.k t = decide (x.k.extract 0 t.size = t) := by
        unfold pre
        rw [decide_eq_true hxs2]
        rfl
      have HP := Lib.hid hpre
      clear hpre h32
      by_cases he : x.k.extract 0 t.size = t
      case neg =>
        have d0 : ((x.k.extract 0 t.size).toList == t.toList) = false := by rw [beq_list, decide_eq_false he]
        have HQ := Lib.hid (HP.out.trans (decide_eq_false he))
        clear he
        go_wp2_with fail
        go_roundw
        case rel => exact ⟨k + 1, by go_num, by omega, Lib.hid (by rw [under_no HX.out HQ.out]; exact hO.out), hB⟩
        case measure => simp [intOf]; omega
      have d0 : ((x.k.extract 0 t.size).toList == t.toList) = true := by rw [beq_list, decide_eq_true he]
      have HQ := Lib.hid (HP.out.trans (decide_eq_true he))
      clear he
      go_wp2_with (at_builtin
                   refine wpList_append_own _ rfl _ _ 42 rfl w1.heap.size 9 i0 (.string ⟨#[]⟩) 1 16 Try.underlying42 hi hz0 hz1 hz2 rfl (by decide) _ _ _ rfl (World.ownsRow.alloc hO.out _) ⟨wr.heap.size, 0, none⟩ 1 1 [.string x.k] rfl rfl ?c1 ?c2 ?c3 ?c4 ?c5 ?_
                   case c1 => exact fun j u hj => alloc_cells wr _ _ hj
                   case c2 => exact strs_oneCell [x.k]
                   case c3 => unfold maxLen; omega
                   case c4 => omega
                   case c5 => have := hB.out.size; simp; omega
                   intro D2 w3 hown3 hgrow3 _
                   have HO3 : Hid (OwnT w3 w1.heap.size D2 (underL (l.take (k + 1)) t)) := Lib.hid (by
                     unfold OwnT
                     rw [under_yes HX.out HQ.out, List.map_append, List.length_append]
                     exact hown3)
                   have HB3 := Lib.hid ((hB.out.alloc hB.out.size (.cells #[.string x.k] 9)).grown hgrow3 (by have := hB.out.size; simp; omega) (fun q hq => (hO.out.lt q hq).1))
                   clear hown3 hgrow3)
      go_roundw
      case rel => exact ⟨k + 1, by go_num, by omega, HO3, HB3⟩
      case measure => simp [intOf]; omega
    · obtain rfl : k = l.length := by omega
      have HO9 := Lib.hid (show OwnT wr w1.heap.size _ (underL l t) by have h := hO.out; rw [List.take_length] at h; exact h)
      go_wp2_with fail
      go_ret
      exact ⟨_, rfl, HO9.out.strs, bel HB1.out hB.out⟩

set_option maxRecDepth 100000 in
set_option maxHeartbeats 2000000 in
theorem iunder_any (s t : ByteArray) (w : World) (hs : s.size ≤ 1000000) (ht : t.size ≤ 1000000) :
    Calls Try.prog 18 #[.string s, .string t] w fun e w' => ∃ D, e = .returned D ∧ Strs w' w'.heap.size D (underL (readL s) t) ∧ Below w.heap.size w w' := by
  obtain ⟨i0, hi, hz0, hz1, hz2⟩ := info_parts info_str
  have HCK := Lib.hid (fun W => check_any s W hs)
  obtain ⟨r, hr⟩ : ∃ r, r = underL (readL s) t := ⟨_, rfl⟩
  rw [← hr]
  obtain ⟨c, hc⟩ : ∃ c, c = codeOf s := ⟨_, rfl⟩
  rw [← hc] at HCK
  by_cases h0 : c = 0
  case neg =>
    have HR : Hid (r = []) := Lib.hid (by rw [hr]; unfold readL; rw [if_neg (fun e => h0 (hc.trans e))]; rfl)
    have hq : ((c : Int) != 0) = true := by simp; omega
    clear hr hc h0 hs ht
    go_enter Try.func18, Try.ntmps18
    go_wp2_with (go_at_call 23; refine Calls.mono (HCK.out _) ?_; rintro e w1 ⟨rfl, hB1⟩; have HB1 := Lib.hid hB1; clear hB1)
    go_ret
    exact ⟨_, rfl, by rw [HR.out]; exact Strs.none_, HB1.out⟩
  subst h0
  have hge := code_ge hc.symm
  have hrl : readL s = slotsOf s := by unfold readL; rw [if_pos hc.symm]
  have hrise := readL_rises s
  rw [hrl] at hr hrise
  have HFS := Lib.hid (fun W => first_any s t W hs (by omega) hc.symm)
  have HSZ := Lib.hid (fun W => vsize_any s W hge (by omega))
  have hFn : firstN (slotsOf s) t ≤ countV s := by
    have : firstN (slotsOf s) t ≤ (slotsOf s).length := List.countP_le_length
    rw [show (slotsOf s).length = countV s from slotsN_len _ _] at this
    exact this
  have hcn : countV s ≤ 100000 := by unfold countV; omega
  have HVK := Lib.hid (fun i (hi' : i < countV s) W => vkey_any s i W (by have := count_at (s := s) (i := i) hge hi'; omega) hs)
  have HGT : Hid (∀ i, i < countV s → (slotsOf s)[i]? = some (slotAt s (1028 + i * 40))) := Lib.hid (fun i hi' => slots_get hi')
  have HSS := Lib.hid hs
  obtain ⟨l, hl⟩ : ∃ l, l = slotsOf s := ⟨_, rfl⟩
  have HLL : Hid (l.length = countV s) := Lib.hid (by rw [hl]; exact slotsN_len _ _)
  rw [← hl] at HFS hFn HGT hr hrise
  obtain ⟨F, hF⟩ : ∃ F, F = firstN l t := ⟨_, rfl⟩
  rw [← hF] at HFS hFn
  obtain ⟨n, hn⟩ : ∃ n, n = countV s := ⟨_, rfl⟩
  rw [← hn] at HSZ hFn hcn HVK HGT HLL
  have HF := Lib.hid hF
  have HRI := Lib.hid hrise
  have HR := Lib.hid hr
  clear hl hF hn hrise hr hrl hge hc hs
  go_enter Try.func18, Try.ntmps18
  go_wp2_with (first
    | (go_at_call 23; refine Calls.mono (HCK.out _) ?_; rintro e w1 ⟨rfl, hB1⟩; have HB1 := Lib.hid hB1; clear hB1)
    | (go_at_call 37; refine Calls.mono (HFS.out _) ?_; rintro e w2 ⟨rfl, hB2⟩; have HB2 := Lib.hid (bel HB1.out hB2); clear hB2))
  go_loopw [6, 7] (fun o i wr => ∃ k : Nat, i = .int .i64 k ∧ F ≤ k ∧ k ≤ n ∧ Hid (OwnT wr w.heap.size o (((l.take k).drop F).map (·.k))) ∧ Hid (∀ (j : Nat) (x : Slt), F ≤ j → j < k → l[j]? = some x → pre x.k t = true) ∧ Hid (Below w.heap.size w wr)) (fun _ i _ => n + 1 - (intOf i).toNat)
  case atStart => exact ⟨F, rfl, Nat.le_refl _, hFn, Lib.hid (by
    have : (l.take F).drop F = [] := by rw [List.drop_eq_nil_iff, List.length_take]; omega
    rw [this]
    exact OwnT.nil _ _), Lib.hid (fun j x h1 h2 => by omega), HB2⟩
  case round =>
    obtain ⟨k, rfl, hFk, hk, hO, hP, hB⟩ := hrel
    have HEND : Hid (∀ v, OwnT wr w.heap.size v (((l.take k).drop F).map (·.k)) → (∀ x, l[k]? = some x → pre x.k t = false) → Strs wr wr.heap.size v r) := Lib.hid (fun v hv h => by
      have h2 := under_part HRI.out t HF.out hFk (by have := HLL.out; omega) (fun j x a b c => hP.out j x a b c) h
      rw [HR.out, h2]
      exact OwnT.strs hv)
    by_cases hlt : k < n
    case neg =>
      obtain rfl : k = n := by omega
      have HN : Hid (∀ x, l[k]? = some x → pre x.k t = false) := Lib.hid (fun x hx => by
        rw [List.getElem?_eq_none (by have := HLL.out; omega)] at hx
        cases hx)
      go_wp2_with (go_at_call 38; refine Calls.mono (HSZ.out _) ?_; rintro e w3 ⟨rfl, rfl⟩)
      go_ret
      exact ⟨_, rfl, HEND.out _ hO.out HN.out, hB.out⟩
    have k1 : (k : Int) < (n : Int) := by omega
    have HK := Lib.hid (fun W => HVK.out k hlt W)
    have HX := Lib.hid (HGT.out k hlt)
    obtain ⟨x, hx⟩ : ∃ x, x = slotAt s (1028 + k * 40) := ⟨_, rfl⟩
    have hxk : s.extract (1028 + k * 40) (1028 + k * 40 + 32) = x.k := by rw [hx]; rfl
    rw [hxk] at HK
    rw [← hx] at HX
    have hxs : x.k.size ≤ 9223372036854775807 := by rw [← hxk, ByteArray.size_extract]; omega
    have HPR := Lib.hid (fun W => hpre_any x.k t W hxs (by omega))
    have hun : (((l.take k).drop F).map (·.k)).length ≤ 100000 := by
      rw [List.length_map, List.length_drop, List.length_take]
      omega
    clear hx hxk
    cases hp : pre x.k t with
    | false =>
      rw [hp] at HPR
      have HN : Hid (∀ x, l[k]? = some x → pre x.k t = false) := Lib.hid (fun y hy => by
        have h := HX.out
        rw [hy] at h
        rw [Option.some.inj h]
        exact hp)
      clear hp
      go_wp2_with (first
        | (go_at_call 38; refine Calls.mono (HSZ.out _) ?_; rintro e w3 ⟨rfl, rfl⟩)
        | (go_at_call 39; refine Calls.mono (HK.out _) ?_; rintro e w4 ⟨rfl, rfl⟩)
        | (go_at_call 44; refine Calls.mono (HPR.out _) ?_; rintro e w5 ⟨rfl, rfl⟩))
      go_ret
      exact ⟨_, rfl, HEND.out _ hO.out HN.out, hB.out⟩
    | true =>
      rw [hp] at HPR
      have HN : Hid (∀ (j : Nat) (x : Slt), F ≤ j → j < k + 1 → l[j]? = some x → pre x.k t = true) := Lib.hid (fun j y h1 h2 hy => by
        rcases Nat.lt_or_ge j k with h3 | h3
        · exact hP.out j y h1 h3 hy
        · obtain rfl : j = k := by omega
          have h := HX.out
          rw [hy] at h
          rw [Option.some.inj h]
          exact hp)
      have HST : Hid (((l.take (k + 1)).drop F).map (·.k) = ((l.take k).drop F).map (·.k) ++ [x.k]) := Lib.hid (by
        rw [List.take_add_one, HX.out, List.drop_append_of_le_length (by rw [List.length_take]; have := HLL.out; omega), List.map_append]
        rfl)
      clear hp
      go_wp2_with (first
        | (go_at_call 38; refine Calls.mono (HSZ.out _) ?_; rintro e w3 ⟨rfl, rfl⟩)
        | (go_at_call 39; refine Calls.mono (HK.out _) ?_; rintro e w4 ⟨rfl, rfl⟩)
        | (go_at_call 44; refine Calls.mono (HPR.out _) ?_; rintro e w5 ⟨rfl, rfl⟩)
        | (at_builtin
           refine wpList_append_own _ rfl _ _ 42 rfl w.heap.size 9 i0 (.string ⟨#[]⟩) 1 16 Try.underlying42 hi hz0 hz1 hz2 rfl (by decide) _ _ _ rfl (World.ownsRow.alloc hO.out _) ⟨w4.heap.size, 0, none⟩ 1 1 [.string x.k] rfl rfl ?c1 ?c2 ?c3 ?c4 ?c5 ?_
           case c1 => exact fun j u hj => alloc_cells w4 _ _ hj
           case c2 => exact strs_oneCell [x.k]
           case c3 => unfold maxLen; omega
           case c4 => omega
           case c5 => have := hB.out.size; simp; omega
           intro D2 w9 hown3 hgrow3 _
           have HO3 : Hid (OwnT w9 w.heap.size D2 (((l.take (k + 1)).drop F).map (·.k))) := Lib.hid (by
             unfold OwnT
             rw [HST.out, List.map_append, List.length_append]
             exact hown3)
           have HB3 := Lib.hid ((hB.out.alloc hB.out.size (.cells #[.string x.k] 9)).grown hgrow3 (by have := hB.out.size; simp; omega) (fun q hq => (hO.out.lt q hq).1))
           clear hown3 hgrow3))
      go_roundw
      case rel => exact ⟨k + 1, by go_num, by omega, by omega, HO3, HN, HB3⟩
      case measure => simp [intOf]; omega

end Go.Proofs.Ytjjenpklcbpkmaa
