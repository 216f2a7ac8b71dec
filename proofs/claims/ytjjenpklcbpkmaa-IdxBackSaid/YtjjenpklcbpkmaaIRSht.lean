/-
  How many digits tell a key from all others: the document's package.
-/
import Derived.Test.YtjjenpklcbpkmaaISht
import Derived.Deep.RegionHeld3
namespace Go.Proofs.Ytjjenpklcbpkmaa
open Go.RowKit Go.Proofs.Mem
set_option linter.unusedVariables false

def aloneX (key : ByteArray) (n : Nat) (x : Slt) : Bool := decide (x.k = key) || decide (¬ n ≤ alikeK x.k key)
def aloneB (l : List Slt) (key : ByteArray) (n : Nat) : Bool := l.all (aloneX key n)
theorem alone_iff {l : List Slt} {key : ByteArray} {n : Nat} (h : 1 ≤ n) : aloneB l key n = decide (shortN l key ≤ n) := by
  rw [Bool.eq_iff_iff, decide_eq_true_eq, short_le h]
  unfold aloneB
  rw [List.all_eq_true]
  constructor
  · intro hh x hx
    have := hh x hx
    unfold aloneX at this
    rw [Bool.or_eq_true, decide_eq_true_eq, decide_eq_true_eq] at this
    exact this
  · intro hh x hx
    unfold aloneX
    rw [Bool.or_eq_true, decide_eq_true_eq, decide_eq_true_eq]
    exact hh x hx
theorem alone_snoc {l : List Slt} {key : ByteArray} {n k : Nat} {x : Slt} (hx : l[k]? = some x) : aloneB (l.take (k + 1)) key n = (aloneB (l.take k) key n && aloneX key n x) := by
  unfold aloneB
  rw [List.take_add_one, hx, List.all_append]
  simp
theorem keepC {wr w' : World} {p : Addr} {v : Value} (hp : p.block < wr.heap.size) (h : wr.cell? p = some v) (hb : Hid (Below wr.heap.size wr w')) : w'.cell? p = some v ∧ Hid (Below wr.heap.size wr w') := ⟨(hb.out.cell hp).trans h, hb⟩

set_option maxRecDepth 100000 in
set_option maxHeartbeats 2000000 in
theorem rshort_any (s key : ByteArray) (w : World) (hs : s.size ≤ 1000000) (hk : key.size ≤ 1000000) :
    Calls Try.prog 21 #[.string s, .string key] w fun e w' => e = .returned (.int .i64 (shortV s key : Nat)) ∧ Below w.heap.size w w' := by
  have HRD := Lib.hid (fun W => rread_any s W hs)
  have hll := readL_len hs
  obtain ⟨r, hr⟩ : ∃ r, r = shortV s key := ⟨_, rfl⟩
  rw [← hr]
  unfold shortV at hr
  obtain ⟨c, hc⟩ : ∃ c, c = codeOf s := ⟨_, rfl⟩
  rw [← hc] at HRD hr
  have H32 := Lib.hid (@readL_32 s)
  obtain ⟨l, hl⟩ : ∃ l, l = readL s := ⟨_, rfl⟩
  rw [← hl] at HRD hr hll H32
  by_cases h0 : c = 0
  case neg =>
    have HR : Hid (r = 0) := Lib.hid (by rw [hr, if_neg (fun e => h0 e.1)])
    have hq : ((c : Int) != 0) = true := by simp; omega
    clear hr hc h0 hs hk hl
    go_enter Try.func21, Try.ntmps21
    go_wp2_with (go_at_call 9; refine Calls.mono (HRD.out _) ?_; rintro e w1 ⟨D, rfl, hD, hB1⟩; have HB1 := Lib.hid hB1; clear hB1 hD)
    go_ret
    exact ⟨by rw [HR.out]; rfl, HB1.out⟩
  subst h0
  by_cases h32 : key.size = 32
  case neg =>
    have HR : Hid (r = 0) := Lib.hid (by rw [hr, if_neg (fun e => h32 e.2)])
    have hq : ((key.size : Int) != 32) = true := by simp; omega
    clear hr hc hs hk h32 hl
    go_enter Try.func21, Try.ntmps21
    go_wp2_with (go_at_call 9; refine Calls.mono (HRD.out _) ?_; rintro e w1 ⟨D, rfl, hD, hB1⟩; have HB1 := Lib.hid hB1; clear hB1 hD)
    go_ret
    exact ⟨by rw [HR.out]; rfl, HB1.out⟩
  have hq : ((key.size : Int) != 32) = false := by simp; omega
  rw [if_pos ⟨rfl, h32⟩] at hr
  have hr1 : 1 ≤ r := by rw [hr]; exact short_pos _ _
  have hr64 : r ≤ 64 := by rw [hr]; exact short_64 H32.out h32
  have HR := Lib.hid hr
  have HK32 := Lib.hid h32
  have HHX := Lib.hid (fun (k : ByteArray) (hk : k.size = 32) W => rhex_any k W (by omega) (by omega))
  have HHK := Lib.hid (fun W => HHX.out key h32 W)
  have HHS : Hid ((hexB key).size = 64) := Lib.hid (by rw [hexB_size]; omega)
  obtain ⟨h, hh⟩ : ∃ h, h = hexB key := ⟨_, rfl⟩
  have HH := Lib.hid hh
  rw [← hh] at HHK HHS
  have hhs : h.size ≤ 64 := by have := HHS.out; omega
  have hhs2 : (64 : Int) ≤ (h.size : Int) := by have := HHS.out; omega
  clear hr hc hs hk h32 hl hh
  go_enter Try.func21, Try.ntmps21
  go_wp2_with (first
    | (go_at_call 9
       refine Calls.mono (HRD.out _) ?_
       rintro e w1 ⟨D, rfl, ⟨A, c, rfl, hc1, hc2, hR⟩, hB1⟩
       have HRo := Lib.hid hR
       have HB1 := Lib.hid hB1
       clear hR hB1 hc1 hc2)
    | (go_at_call 46; refine Calls.mono (HHK.out _) ?_; rintro e w2 ⟨rfl, hB2⟩; have HR2 := Lib.hid ((HRo.out.below hB2).more hB2.size); have HB2 := Lib.hid (bel HB1.out hB2); clear hB2))
  go_loopw [8, 9, 10] (fun t8 _ _ wr => ∃ n : Nat, t8 = .int .i64 n ∧ 1 ≤ n ∧ n ≤ r ∧ Hid (Below w2.heap.size w2 wr)) (fun t8 _ _ _ => 65 - (intOf t8).toNat)
  case atStart => exact ⟨1, rfl, Nat.le_refl _, hr1, Lib.hid (Below.refl _ _)⟩
  case round =>
    obtain ⟨n, rfl, hn1, hnr, hBo⟩ := hrel
    obtain ⟨wo, rfl⟩ : ∃ wo : World, wo = wr := ⟨_, rfl⟩
    by_cases h64 : n < 64
    case neg =>
      have HE : Hid (r = 64) := Lib.hid (by omega)
      go_wp2_with fail
      go_ret
      exact ⟨by rw [HE.out]; rfl, bel HB2.out hBo.out⟩
    have hn64 : (n : Int) < 64 := by omega
    go_wp2_with fail
    go_loopw [9, 10] (fun al i wr => ∃ k : Nat, i = .int .i64 k ∧ k ≤ l.length ∧ al = .bool (aloneB (l.take k) key n) ∧ Hid (Below w2.heap.size w2 wr)) (fun _ i _ => l.length + 1 - (intOf i).toNat)
    case atStart => exact ⟨0, rfl, Nat.zero_le _, rfl, hBo⟩
    case round =>
      obtain ⟨k, rfl, hk, rfl, hB⟩ := hrel
      by_cases hlt : k < l.length
      case neg =>
        obtain rfl : k = l.length := by omega
        have HAE : Hid (aloneB (l.take l.length) key n = decide (r ≤ n)) := Lib.hid (by rw [List.take_length, alone_iff hn1, ← HR.out])
        obtain ⟨b, hb⟩ : ∃ b, b = aloneB (l.take l.length) key n := ⟨_, rfl⟩
        rw [← hb] at HAE ⊢
        clear hb
        by_cases hrn : r ≤ n
        · obtain rfl : b = true := by rw [HAE.out]; exact decide_eq_true hrn
          obtain rfl : n = r := by omega
          go_wp2_with fail
          go_ret
          exact ⟨rfl, bel HB2.out hB.out⟩
        · obtain rfl : b = false := by rw [HAE.out]; exact decide_eq_false hrn
          go_wp2_with fail
          go_roundw
          case rel => exact ⟨n + 1, by go_num, by omega, by omega, hB⟩
          case measure => simp [intOf]; omega
      obtain ⟨x, hx⟩ : ∃ x, l[k]? = some x := ⟨l[k], List.getElem?_eq_getElem hlt⟩
      obtain ⟨b, o, rfl, hb, q0, q1, q2⟩ := row_slot HR2.out hx
      have p0 := (hB.out.cell (p := ⟨b, o + k * 3, none⟩) hb).trans q0
      have hlb : b < wr.heap.size := Nat.lt_of_lt_of_le hb hB.out.size
      have i1 : (k : Int) < (l.length : Int) := by omega
      have i0 : (0 : Int) ≤ (k : Int) := by omega
      have HX := Lib.hid hx
      have HX32 := Lib.hid (H32.out x (List.mem_of_getElem? hx))
      have HAS := Lib.hid (alone_snoc (key := key) (n := n) hx)
      obtain ⟨al, hal⟩ : ∃ al, al = aloneB (l.take k) key n := ⟨_, rfl⟩
      rw [← hal] at HAS ⊢
      clear q0 q1 q2 hx hal
      cases al with
      | false =>
        have HAF : Hid (aloneB (l.take (k + 1)) key n = false) := Lib.hid (by rw [HAS.out]; rfl)
        go_wp2_with fail
        go_quiet (fail)
        go_wp2_with fail
        go_roundw
        case rel => exact ⟨k + 1, by go_num, by omega, by rw [HAF.out], Lib.hid (below_drewN hB.out _)⟩
        case measure => simp [intOf]; omega
      | true =>
        by_cases he : x.k = key
        · have d0 : (x.k.toList == key.toList) = true := by rw [beq_list, decide_eq_true he]
          have HAF : Hid (aloneB (l.take (k + 1)) key n = true) := Lib.hid (by rw [HAS.out]; unfold aloneX; rw [decide_eq_true he]; rfl)
          clear he
          go_wp2_with fail
          go_quiet (fail)
          go_wp2_with fail
          go_roundw
          case rel => exact ⟨k + 1, by go_num, by omega, by rw [HAF.out], Lib.hid (below_drewN hB.out _)⟩
          case measure => simp [intOf]; omega
        · have d0 : (x.k.toList == key.toList) = false := by rw [beq_list, decide_eq_false he]
          have HHy := Lib.hid (fun W => HHX.out x.k HX32.out W)
          have HEX : Hid ((hexB x.k).extract 0 n = (hexB key).extract 0 n ↔ n ≤ alikeK x.k key) := Lib.hid (alikeK_extract (by have := HX32.out; omega) (by have := HK32.out; omega))
          have HYS : Hid ((hexB x.k).size = 64) := Lib.hid (by rw [hexB_size]; have := HX32.out; omega)
          have HAF : Hid (aloneB (l.take (k + 1)) key n = decide (¬ (hexB x.k).extract 0 n = (hexB key).extract 0 n)) := Lib.hid (by
            rw [HAS.out]; unfold aloneX; rw [decide_eq_false he, Bool.true_and, Bool.false_or, decide_eq_decide, HEX.out])
          rw [← HH.out] at HAF
          obtain ⟨y, hy⟩ : ∃ y, y = hexB x.k := ⟨_, rfl⟩
          rw [← hy] at HHy HYS HAF
          have hys : y.size ≤ 64 := by have := HYS.out; omega
          have hys2 : (64 : Int) ≤ (y.size : Int) := by have := HYS.out; omega
          have n0 : (0 : Int) ≤ (n : Int) := by omega
          have n1 : (n : Int) ≤ (y.size : Int) := by omega
          have n2 : (n : Int) ≤ (h.size : Int) := by omega
          have hS0 : wr.drew.cell? ⟨b, o + k * 3, none⟩ = some (.string x.k) ∧ Hid (Below wr.heap.size wr wr.drew) := ⟨p0, Lib.hid (Below.refl _ _).drew⟩
          clear he hy HEX
          by_cases hee : y.extract 0 n = h.extract 0 n
          · have d1 : ((y.extract 0 n).toList == (h.extract 0 n).toList) = true := by rw [beq_list, decide_eq_true hee]
            have HAG : Hid (aloneB (l.take (k + 1)) key n = false) := Lib.hid (by rw [HAF.out]; exact decide_eq_false (fun h => h hee))
            clear hee
            go_wp2_with fail
            go_region_held3 (fun w' => w'.cell? ⟨b, o + k * 3, none⟩ = some (.string x.k) ∧ Hid (Below wr.heap.size wr w'))
              (first | exact hS0 | (go_split_ands; exact keepC hlb p0 (Lib.hid (bel (Hid.out ‹Hid (Below wr.heap.size wr _)›) ‹_›))))
              ((go_at_call 46; refine Calls.mono (HHy.out _) ?_; rintro e wh ⟨rfl, hBh⟩))
            go_split_ands
            have HBh : Hid (Below wr.heap.size wr wh) := Lib.hid (Hid.out ‹Hid (Below wr.heap.size wr wh)›)
            go_wp2_with fail
            go_roundw
            case rel => exact ⟨k + 1, by go_num, by omega, by rw [HAG.out], Lib.hid (bel hB.out HBh.out)⟩
            case measure => simp [intOf]; omega
          · have d1 : ((y.extract 0 n).toList == (h.extract 0 n).toList) = false := by rw [beq_list, decide_eq_false hee]
            have HAG : Hid (aloneB (l.take (k + 1)) key n = true) := Lib.hid (by rw [HAF.out]; exact decide_eq_true hee)
            clear hee
            go_wp2_with fail
            go_region_held3 (fun w' => w'.cell? ⟨b, o + k * 3, none⟩ = some (.string x.k) ∧ Hid (Below wr.heap.size wr w'))
              (first | exact hS0 | (go_split_ands; exact keepC hlb p0 (Lib.hid (bel (Hid.out ‹Hid (Below wr.heap.size wr _)›) ‹_›))))
              ((go_at_call 46; refine Calls.mono (HHy.out _) ?_; rintro e wh ⟨rfl, hBh⟩))
            go_split_ands
            have HBh : Hid (Below wr.heap.size wr wh) := Lib.hid (Hid.out ‹Hid (Below wr.heap.size wr wh)›)
            go_wp2_with fail
            go_roundw
            case rel => exact ⟨k + 1, by go_num, by omega, by rw [HAG.out], Lib.hid (bel hB.out HBh.out)⟩
            case measure => simp [intOf]; omega

end Go.Proofs.Ytjjenpklcbpkmaa
