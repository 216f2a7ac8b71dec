/-
  IdxBack's walk.
-/
import Derived.Test.YtjjenpklcbpkmaaIBck
import Derived.Test.YtjjenpklcbpkmaaIByt
namespace Go.Proofs.Ytjjenpklcbpkmaa
open Go.RowKit Go.Proofs.Mem
set_option linter.unusedVariables false

theorem kept_box {w w' : World} {q : Nat} {x : Slt} (h : BoxS w q x) (hb : Below w.heap.size w w') : BoxS w' q x := h.on h.lt hb
theorem kept_alloc {w : World} {q : Nat} {x : Slt} (h : BoxS w q x) (o : Obj) : BoxS (w.alloc o) q x := kept_box h ((Below.refl _ _).alloc (Nat.le_refl _) o)

set_option maxRecDepth 100000 in
set_option maxHeartbeats 8000000 in
theorem back_walk (u v : Value) (l m : List Slt) (s key : ByteArray) (w : World) (hu : Slots w w.heap.size u l) (hv : Slots w w.heap.size v m) (hzl : ∀ x ∈ l, x.k.size ≤ 9223372036854775807) (hzm : ∀ x ∈ m, x.k.size ≤ 9223372036854775807)
    (h4 : s.size ≤ 4000) (h1 : key.size ≤ 100) (hfl : (decide (l.length ≤ 40) && l.all smallS) = true) (hfm : (decide (m.length ≤ 40) && m.all smallS) = true) (hpl : fitP l = true) (hpm : fitP m = true) :
    Calls Try.prog 5 #[u, v, .string s, .string key] w fun e w' => e = .returned (.bool true) ∧ Below w.heap.size w w' := by
  have hll : l.length ≤ 40 := by rw [Bool.and_eq_true, decide_eq_true_eq] at hfl; exact hfl.1
  have hlm : m.length ≤ 40 := by rw [Bool.and_eq_true, decide_eq_true_eq] at hfm; exact hfm.1
  obtain ⟨A, c, rfl, hc1, hc2, hRl⟩ := hu
  obtain ⟨B, d, rfl, hd1, hd2, hRm⟩ := hv
  have HU := Lib.hid (show Slots w w.heap.size (.slice A l.length c) l from ⟨A, c, rfl, hc1, hc2, hRl⟩)
  have HV := Lib.hid (show Slots w w.heap.size (.slice B m.length d) m from ⟨B, d, rfl, hd1, hd2, hRm⟩)
  have HRl := Lib.hid hRl
  have HRm := Lib.hid hRm
  have q1 : ((4000 : Int) < (s.size : Int)) = False := by simp; omega
  have q2 : ((100 : Int) < (key.size : Int)) = False := by simp; omega
  have HFL := Lib.hid (fun W (h : Slots W W.heap.size (.slice A l.length c) l) => few_any _ l W h hzl)
  have HFM := Lib.hid (fun W (h : Slots W W.heap.size (.slice B m.length d) m) => few_any _ m W h hzm)
  rw [hfl] at HFL
  rw [hfm] at HFM
  have HAW := Lib.hid (fun W => awake_any W)
  have HRS := Lib.hid (fun W => read_any s W (by omega))
  have hsw : codeOf s = 0 → writeB (readL s) = s := fun h => by unfold readL; rw [if_pos h]; exact (code_zero h).2
  have HWD := Lib.hid (fun W D (h : Slots W W.heap.size D (readL s)) => write_any D (readL s) W h (fun x hx => by rw [readL_32 x hx]; decide))
  obtain ⟨cs, hcs⟩ : ∃ n, n = codeOf s := ⟨_, rfl⟩
  rw [← hcs] at HRS hsw
  have HTL := Lib.hid (fun W (h : Slots W W.heap.size (.slice A l.length c) l) => rfit_any _ l W h hzl)
  have HTM := Lib.hid (fun W (h : Slots W W.heap.size (.slice B m.length d) m) => rfit_any _ m W h hzm)
  rw [hpl] at HTL
  rw [hpm] at HTM
  have HWL := Lib.hid (fun W (h : Slots W W.heap.size (.slice A l.length c) l) => write_any _ l W h hzl)
  have HWM := Lib.hid (fun W (h : Slots W W.heap.size (.slice B m.length d) m) => write_any _ m W h hzm)
  have hts := write_size hpl
  have hzs := write_size hpm
  have hct := code_back hpl
  have hcz := code_back hpm
  have hrt := read_back hpl
  have hrz := read_back hpm
  have hfv := merge_fit hpl hpm (by omega)
  have hvs := write_size hfv
  have hvl := mergeL_len l m
  have hrv := read_back hfv
  obtain ⟨t, ht⟩ : ∃ t, t = writeB l := ⟨_, rfl⟩
  obtain ⟨z, hz⟩ : ∃ t, t = writeB m := ⟨_, rfl⟩
  rw [← ht] at HWL hts hct hrt
  rw [← hz] at HWM hzs hcz hrz
  have hmc : mergeC t z = 0 := by
    unfold mergeC
    rw [if_neg (fun h => h hct), if_neg (fun h => h hcz), hrt, hrz, if_neg (by omega)]
  have hmb : mergeB t z = writeB (mergeL l m) := by
    unfold mergeB
    rw [if_pos hmc, hrt, hrz]
  obtain ⟨mv, hmv⟩ : ∃ t, t = writeB (mergeL l m) := ⟨_, rfl⟩
  rw [← hmv] at hmb hvs hrv
  have HRT := Lib.hid (fun W => read_any t W (by omega))
  rw [hct, hrt] at HRT
  have HMG := Lib.hid (fun W => imerge_any t z W (by omega) (by omega))
  rw [hmc, hmb] at HMG
  have HSM := Lib.hid (fun W D (hD : Slots W W.heap.size D l) (hE : Slots W W.heap.size (.slice A l.length c) l) => rsame_any D (.slice A l.length c) l l W hD hE)
  rw [decide_eq_true rfl] at HSM
  -- what is found
  have HF1 : Hid (∀ x ∈ l, ∀ W, Calls Try.prog 13 #[.string t, .string x.k] W fun e w' => e = .returned (.tuple #[.agg #[.string x.k, .int .i64 x.a, .int .i64 x.s], .bool true]) ∧ Below W.heap.size W w') := Lib.hid (fun x hx W => by
    have h := ifind_any t x.k W (by omega) (by rw [fit_32 hpl x hx]; decide)
    rw [hrt, find_mem (fit_rises hpl) hx] at h
    exact h)
  have HF2 : Hid (∀ x ∈ l, ∀ W, Calls Try.prog 13 #[.string mv, .string x.k] W fun e w' => e = .returned (.tuple #[.agg #[.string x.k, .int .i64 x.a, .int .i64 x.s], .bool true]) ∧ Below W.heap.size W w') := Lib.hid (fun x hx W => by
    have h := ifind_any mv x.k W (by omega) (by rw [fit_32 hpl x hx]; decide)
    rw [hrv, find_left hpl hpm hx] at h
    exact h)
  have HF3 : Hid (∀ y ∈ m, ∃ q : Slt, ((findL l y.k).isSome = false → q = y) ∧ ∀ W, Calls Try.prog 13 #[.string mv, .string y.k] W fun e w' => e = .returned (.tuple #[.agg #[.string q.k, .int .i64 q.a, .int .i64 q.s], .bool true]) ∧ Below W.heap.size W w') := Lib.hid (fun y hy => by
    obtain ⟨q, hq, hq2⟩ := find_right hpl hpm hy
    refine ⟨q, hq2, fun W => ?_⟩
    have h := ifind_any mv y.k W (by omega) (by rw [fit_32 hpm y hy]; decide)
    rw [hrv, hq] at h
    exact h)
  have HF4 : Hid (∀ k : ByteArray, k.size ≤ 100 → ∃ q : Slt, ∀ W, Calls Try.prog 13 #[.string t, .string k] W fun e w' => e = .returned (.tuple #[.agg #[.string q.k, .int .i64 q.a, .int .i64 q.s], .bool (findL l k).isSome]) ∧ Below W.heap.size W w') := Lib.hid (fun k hk => by
    refine ⟨(findL l k).getD noSlt, fun W => ?_⟩
    have h := ifind_any t k W (by omega) (by omega)
    rw [hrt] at h
    exact h)
  have HSH : Hid (∀ x ∈ l, ∀ W, Calls Try.prog 20 #[.string t, .string x.k] W fun e w' => e = .returned (.int .i64 (shortN l x.k : Nat)) ∧ Below W.heap.size W w') := Lib.hid (fun x hx W => by
    have h := ishort_any t x.k W (by omega) (by rw [fit_32 hpl x hx]; decide)
    unfold shortV at h
    rw [if_pos ⟨hct, fit_32 hpl x hx⟩, hrt] at h
    exact h)
  have HUN : Hid (∀ k : ByteArray, k.size ≤ 100 → ∀ W, Calls Try.prog 18 #[.string t, .string k] W fun e w' => ∃ D, e = .returned D ∧ Strs w' w'.heap.size D (underL l k) ∧ Below W.heap.size W w') := Lib.hid (fun k hk W => by
    have h := iunder_any t k W (by omega) (by omega)
    rw [hrt] at h
    exact h)
  have HU32 := Lib.hid (fit_32 hpl)
  have HM32 := Lib.hid (fit_32 hpm)
  have HUR := Lib.hid (fit_rises hpl)
  have qts : ((t.size : Int) != 1032 + 40 * (l.length : Int)) = false := by simp; omega
  have htz : t.size ≤ 9223372036854775807 := by omega
  have HKS := Lib.hid h1
  have HSW := Lib.hid hsw
  have HLM := Lib.hid (show l.length ≤ 40 ∧ m.length ≤ 40 from ⟨hll, hlm⟩)
  have hlmx : l.length ≤ 9223372036854775807 := by omega
  have hmmx : m.length ≤ 9223372036854775807 := by omega
  clear hc1 hc2 hRl hd1 hd2 hRm hzl hzm h4 h1 hfl hfm hpl hpm hsw hts hzs hct hcz hrt hrz hfv hvs hvl hrv ht hz hmc hmb hmv
  by_cases h0 : cs = 0
  case' pos =>
    subst h0
    rw [HSW.out rfl] at HWD
    clear hcs
  case' neg =>
    have hq : ((cs : Int) == 0) = false := by rw [beq_eq_false_iff_ne]; omega
    clear hcs h0
  all_goals
    go_enter Try.func5, Try.ntmps5
    go_wp2_with (first
      | (go_at_call 6; (with_reducible refine Calls.mono (HFL.out _ HU.out) ?_); rintro e w1 ⟨rfl, hB1⟩; have HB1 := Lib.hid hB1; have HV1 := Lib.hid (HV.out.on hB1); clear hB1)
      | (go_at_call 6; (with_reducible refine Calls.mono (HFM.out _ HV1.out) ?_); rintro e w2 ⟨rfl, hB2⟩; have HB2 := Lib.hid (bel HB1.out hB2); clear hB2)
      | (go_at_call 8; (with_reducible refine Calls.mono (HRS.out _) ?_); rintro e w3 ⟨D3, rfl, hD3, hB3⟩; have HD3 := Lib.hid hD3; have HB3 := Lib.hid (bel HB2.out hB3); have HB4 := HB3; have HU4 := Lib.hid (HU.out.on HB3.out); clear hB3 hD3)
      | (go_at_call 10; (with_reducible refine Calls.mono (HWD.out _ _ HD3.out) ?_); rintro e w4 ⟨rfl, hB4⟩; clear HB4 HU4; have HB4 := Lib.hid (bel HB3.out hB4); have HU4 := Lib.hid (HU.out.on HB4.out); clear hB4)
      | (go_at_call 22; (with_reducible refine Calls.mono (HTL.out _ HU4.out) ?_); rintro e w5 ⟨rfl, hB5⟩; have HB5 := Lib.hid (bel HB4.out hB5); have HV5 := Lib.hid (HV.out.on HB5.out); clear hB5)
      | (go_at_call 22; (with_reducible refine Calls.mono (HTM.out _ HV5.out) ?_); rintro e w6 ⟨rfl, hB6⟩; have HB6 := Lib.hid (bel HB5.out hB6); have HU6 := Lib.hid (HU.out.on HB6.out); clear hB6)
      | (go_at_call 10; (with_reducible refine Calls.mono (HWL.out _ HU6.out) ?_); rintro e w7 ⟨rfl, hB7⟩; have HB7 := Lib.hid (bel HB6.out hB7); have HV7 := Lib.hid (HV.out.on HB7.out); clear hB7)
      | (go_at_call 10; (with_reducible refine Calls.mono (HWM.out _ HV7.out) ?_); rintro e w8 ⟨rfl, hB8⟩; have HB8 := Lib.hid (bel HB7.out hB8); clear hB8)
      | (go_at_call 8; (with_reducible refine Calls.mono (HRT.out _) ?_); rintro e w9 ⟨D9, rfl, hD9, hB9⟩; have HD9 := Lib.hid hD9; have HB9 := Lib.hid (bel HB8.out hB9); clear hB9 hD9)
      | (go_at_call 15; (with_reducible refine Calls.mono (HMG.out _) ?_); rintro e wa ⟨rfl, hBa⟩; have HDa := Lib.hid (HD9.out.on hBa); have HBa := Lib.hid (bel HB9.out hBa); have HUa := Lib.hid (HU.out.on HBa.out); clear hBa)
      | (go_at_call 12; (with_reducible refine Calls.mono (HSM.out _ _ HDa.out HUa.out) ?_); rintro e wb ⟨rfl, hBb⟩; have HBb := Lib.hid (bel HBa.out hBb); clear hBb))
    go_loopw [17, 19, 20, 21, 22, 23, 24, 25, 113] (fun fo _ _ _ _ _ _ _ i wr => ∃ k : Nat, i = .int .i64 k ∧ k ≤ l.length ∧ fo = .bool ((l.take k).any fun x => decide (x.k = key)) ∧ Hid (Below w.heap.size w wr)) (fun _ _ _ _ _ _ _ _ i _ => l.length + 1 - (intOf i).toNat)
    case atStart => exact ⟨0, rfl, Nat.zero_le _, rfl, HBb⟩
    case round =>
      obtain ⟨k, rfl, hk, rfl, hB⟩ := hrel
      by_cases hlt : k < l.length
      case neg =>
        obtain rfl : k = l.length := by omega
        have hfk : ((l.take l.length).any fun x => decide (x.k = key)) = (findL l key).isSome := by rw [List.take_length, find_is]
        rw [hfk]
        obtain ⟨qk, HQK⟩ := HF4.out key HKS.out
        have HAQ := Lib.hid HQK
        have HUZ := HUN.out ⟨#[]⟩ (by decide)
        rw [under_all] at HUZ
        have HAZ := Lib.hid HUZ
        obtain ⟨fk, hfk2⟩ : ∃ fk, fk = (findL l key).isSome := ⟨_, rfl⟩
        rw [← hfk2] at HAQ ⊢
        clear HQK HUZ hfk hfk2
        go_wp2_with fail
        obtain ⟨wo, rfl⟩ : ∃ wo : World, wo = wr := ⟨_, rfl⟩
        go_loopw [27, 28, 29, 30, 31, 190] (fun _ _ _ _ _ i wr => ∃ k : Nat, i = .int .i64 k ∧ k ≤ m.length ∧ Hid (Below w.heap.size w wr)) (fun _ _ _ _ _ i _ => m.length + 1 - (intOf i).toNat)
        case atStart => exact ⟨0, rfl, Nat.zero_le _, hB⟩
        case round =>
          obtain ⟨k, rfl, hk, hB2⟩ := hrel
          by_cases hlt2 : k < m.length
          case neg =>
            obtain rfl : k = m.length := by omega
            go_wp2_with (first
              | (go_at_call 13
                 (with_reducible refine Calls.mono (HAQ.out _) ?_)
                 rintro e wg ⟨rfl, hBg⟩
                 have HBg := Lib.hid (bel hB2.out hBg)
                 clear hBg)
              | (go_at_call 18
                 refine Calls.mono (HAZ.out _) ?_
                 rintro e wh ⟨D, rfl, ⟨Au, cu, rfl, hu1, hu2, _⟩, hBh⟩
                 have HBh := Lib.hid (bel (HBg.out.alloc HBg.out.size _) hBh)
                 rw [List.length_map]
                 clear hBh hu1 hu2)
              | (go_at_call 7; refine Calls.mono (HAW.out _) ?_; rintro e wi ⟨rfl, hBi⟩; have HBi := Lib.hid (bel HBh.out hBi); clear hBi))
            go_ret
            exact ⟨rfl, HBi.out⟩
          obtain ⟨y, hy⟩ : ∃ y, m[k]? = some y := ⟨m[k], List.getElem?_eq_getElem hlt2⟩
          have hym := List.mem_of_getElem? hy
          obtain ⟨b, o, rfl, hb, r0, r1, r2⟩ := row_slot HRm.out hy
          have p0 := (hB2.out.cell (p := ⟨b, o + k * 3, none⟩) hb).trans r0
          have p1 := (hB2.out.cell (p := ⟨b, o + k * 3 + 1, none⟩) hb).trans r1
          have p2 := (hB2.out.cell (p := ⟨b, o + k * 3 + 2, none⟩) hb).trans r2
          have i1 : (k : Int) < (m.length : Int) := by omega
          have i0 : (0 : Int) ≤ (k : Int) := by omega
          have hlb : b < wr.heap.size := Nat.lt_of_lt_of_le hb hB2.out.size
          obtain ⟨q, hq1, hq2⟩ := HF3.out y hym
          obtain ⟨q4, hq4⟩ := HF4.out y.k (by rw [HM32.out y hym]; decide)
          have HA3 := Lib.hid hq2
          have HA4 := Lib.hid hq4
          have HB0 := Lib.hid (hB2.out.alloc hB2.out.size (.cells #[.string y.k, .int .i64 y.a, .int .i64 y.s] 34))
          have HQE : Hid ((findL l y.k).isSome = false → q = y) := Lib.hid hq1
          obtain ⟨fy, hfy⟩ : ∃ fy, fy = (findL l y.k).isSome := ⟨_, rfl⟩
          rw [← hfy] at HA4 HQE
          clear r0 r1 r2 hy hym hq1 hq2 hq4 hfy
          cases fy with
          | true =>
            go_wp2_with (first
              | (go_at_call 13
                 (with_reducible refine Calls.mono (HA3.out _) ?_)
                 rintro e wg ⟨rfl, hBg⟩
                 have HXg := Lib.hid (kept_box (BoxS.new wr y) hBg)
                 have HBg := Lib.hid (bel HB0.out hBg)
                 obtain ⟨x0, x1, x2⟩ := HXg.out.cells
                 have hlg : wr.heap.size < wg.heap.size := HXg.out.lt
                 have hlg2 : wr.heap.size ≠ wg.heap.size := Nat.ne_of_lt hlg
                 clear hBg p0 p1 p2)
              | (go_at_call 13
                 (with_reducible refine Calls.mono (HA4.out _) ?_)
                 rintro e wh ⟨rfl, hBh⟩
                 have HBh := Lib.hid (bel (HBg.out.alloc HBg.out.size _) hBh)
                 have HBh2 := Lib.hid (HBh.out.alloc HBh.out.size (.cells #[.string q4.k, .int .i64 q4.a, .int .i64 q4.s] 34))
                 clear hBh x0 x1 x2))
            go_roundw
            case rel => exact ⟨k + 1, by go_num, by omega, HBh2⟩
            case measure => simp [intOf]; omega
          | false =>
            obtain rfl : q = y := HQE.out rfl
            go_wp2_with (first
              | (go_at_call 13
                 (with_reducible refine Calls.mono (HA3.out _) ?_)
                 rintro e wg ⟨rfl, hBg⟩
                 have HXg := Lib.hid (kept_box (BoxS.new wr q) hBg)
                 have HBg := Lib.hid (bel HB0.out hBg)
                 obtain ⟨x0, x1, x2⟩ := HXg.out.cells
                 have hlg : wr.heap.size < wg.heap.size := HXg.out.lt
                 have hlg2 : wr.heap.size ≠ wg.heap.size := Nat.ne_of_lt hlg
                 clear hBg p0 p1 p2)
              | (go_at_call 13
                 (with_reducible refine Calls.mono (HA4.out _) ?_)
                 rintro e wh ⟨rfl, hBh⟩
                 have HXh := Lib.hid (kept_box (kept_alloc HXg.out _) hBh)
                 have HYh := Lib.hid (kept_box (BoxS.new wg q) hBh)
                 have HBh := Lib.hid (bel (HBg.out.alloc HBg.out.size (.cells #[.string q.k, .int .i64 q.a, .int .i64 q.s] 34)) hBh)
                 have HBh2 := Lib.hid (HBh.out.alloc HBh.out.size (.cells #[.string q4.k, .int .i64 q4.a, .int .i64 q4.s] 34))
                 clear hBh x0 x1 x2
                 obtain ⟨x0, x1, x2⟩ := HXh.out.cells
                 obtain ⟨y0, y1, y2⟩ := HYh.out.cells
                 have hlh : wr.heap.size < wh.heap.size := HXh.out.lt
                 have hlh2 : wr.heap.size ≠ wh.heap.size := Nat.ne_of_lt hlh
                 have hlk : wg.heap.size < wh.heap.size := HYh.out.lt
                 have hlk2 : wg.heap.size ≠ wh.heap.size := Nat.ne_of_lt hlk))
            go_roundw
            case rel => exact ⟨k + 1, by go_num, by omega, HBh2⟩
            case measure => simp [intOf]; omega
      obtain ⟨x, hx⟩ : ∃ x, l[k]? = some x := ⟨l[k], List.getElem?_eq_getElem hlt⟩
      have hxm := List.mem_of_getElem? hx
      obtain ⟨b, o, rfl, hb, r0, r1, r2⟩ := row_slot HRl.out hx
      have p0 := (hB.out.cell (p := ⟨b, o + k * 3, none⟩) hb).trans r0
      have p1 := (hB.out.cell (p := ⟨b, o + k * 3 + 1, none⟩) hb).trans r1
      have p2 := (hB.out.cell (p := ⟨b, o + k * 3 + 2, none⟩) hb).trans r2
      have i1 : (k : Int) < (l.length : Int) := by omega
      have i0 : (0 : Int) ≤ (k : Int) := by omega
      have hlb : b < wr.heap.size := Nat.lt_of_lt_of_le hb hB.out.size
      have HA1 := Lib.hid (HF1.out x hxm)
      have HA2 := Lib.hid (HF2.out x hxm)
      have HAS := Lib.hid (HSH.out x hxm)
      have hx32 := HU32.out x hxm
      have hxs : x.k.size ≤ 32 := by omega
      have hxs2 : (32 : Int) ≤ (x.k.size : Int) := by omega
      have HX32 := Lib.hid hx32
      have hn1 := short_pos l x.k
      have hn2 := short_64 HU32.out hx32
      have HUO := Lib.hid (fun n (h : shortN l x.k = 2 * n) => under_one HUR.out HU32.out hxm h)
      obtain ⟨n, hn⟩ : ∃ n, n = shortN l x.k := ⟨_, rfl⟩
      rw [← hn] at HAS hn1 hn2 HUO
      obtain ⟨p, hp⟩ : ∃ p, p = (n + 1) / 2 := ⟨_, rfl⟩
      have hpi : ((n : Int) + 1) / 2 = (p : Int) := by omega
      have hp32 : p ≤ 32 := by omega
      have HUM := Lib.hid (under_mem hxm (n := p) (by omega))
      have HAU := Lib.hid (HUN.out (x.k.extract 0 p) (by rw [ByteArray.size_extract]; omega))
      have HU1 : Hid (n % 2 = 0 → (underL l (x.k.extract 0 p)).length = 1) := Lib.hid (fun h => HUO.out p (by omega))
      obtain ⟨un, hun⟩ : ∃ un, un = underL l (x.k.extract 0 p) := ⟨_, rfl⟩
      rw [← hun] at HUM HAU HU1
      have hum : un.length ≤ 40 := by rw [hun]; have := under_le l (x.k.extract 0 p); have := HLM.out.1; omega
      have um0 := HUM.out
      have um1 : ((un.length : Int) == 0) = false := by rw [beq_eq_false_iff_ne]; omega
      have HP := Lib.hid hp
      have HX := Lib.hid hx
      have HIN : Hid (((l.take (k + 1)).any fun x => decide (x.k = key)) = (((l.take k).any fun x => decide (x.k = key)) || decide (x.k = key))) := Lib.hid (by
        rw [List.take_add_one, hx, List.any_append]
        simp)
      obtain ⟨fo, hfo⟩ : ∃ fo, fo = (l.take k).any fun x => decide (x.k = key) := ⟨_, rfl⟩
      rw [← hfo] at HIN ⊢
      have HB0 := Lib.hid (hB.out.alloc hB.out.size (.cells #[.string x.k, .int .i64 x.a, .int .i64 x.s] 34))
      have hpar : (((n : Int) % 2 == 0) = true ∧ ((un.length : Int) != 1) = false) ∨ (((n : Int) % 2 == 0) = false ∧ True) := by
        rcases Nat.mod_two_eq_zero_or_one n with he | he
        · exact .inl ⟨by rw [beq_iff_eq]; omega, by rw [HU1.out he]; rfl⟩
        · exact .inr ⟨by rw [beq_eq_false_iff_ne]; omega, trivial⟩
      clear r0 r1 r2 hx hxm hx32 hn hp hun hfo um0
      rcases hpar with ⟨e1, e2⟩ | ⟨e1, e2⟩ <;> cases fo
      all_goals
        go_wp2_with (first
          | (go_at_call 13
             (with_reducible refine Calls.mono (HA1.out _) ?_)
             rintro e wc ⟨rfl, hBc⟩
             have HXc := Lib.hid (kept_box (BoxS.new wr x) hBc)
             have HBc := Lib.hid (bel HB0.out hBc)
             obtain ⟨x0, x1, x2⟩ := HXc.out.cells
             have hlc : wr.heap.size < wc.heap.size := HXc.out.lt
             have hlc2 : wr.heap.size ≠ wc.heap.size := Nat.ne_of_lt hlc
             clear hBc p0 p1 p2)
          | (go_at_call 13
             (with_reducible refine Calls.mono (HA2.out _) ?_)
             rintro e wd ⟨rfl, hBd⟩
             have HXd := Lib.hid (kept_box (kept_alloc HXc.out _) hBd)
             have HYd := Lib.hid (kept_box (BoxS.new wc x) hBd)
             have HBd := Lib.hid (bel (HBc.out.alloc HBc.out.size (.cells #[.string x.k, .int .i64 x.a, .int .i64 x.s] 34)) hBd)
             clear hBd x0 x1 x2
             obtain ⟨x0, x1, x2⟩ := HXd.out.cells
             have hld : wr.heap.size < wd.heap.size := HXd.out.lt
             have hld2 : wr.heap.size ≠ wd.heap.size := Nat.ne_of_lt hld)
          | (go_at_call 20
             (with_reducible refine Calls.mono (HAS.out _) ?_)
             rintro e we ⟨rfl, hBe⟩
             have HXe := Lib.hid (kept_box (kept_alloc HXd.out _) hBe)
             have HYe := Lib.hid (kept_box (kept_alloc HYd.out _) hBe)
             have HZe := Lib.hid (kept_box (BoxS.new wd x) hBe)
             have HBe := Lib.hid (bel (HBd.out.alloc HBd.out.size (.cells #[.string x.k, .int .i64 x.a, .int .i64 x.s] 34)) hBe)
             clear hBe x0 x1 x2
             obtain ⟨x0, x1, x2⟩ := HXe.out.cells
             obtain ⟨y0, y1, y2⟩ := HYe.out.cells
             obtain ⟨z0, z1, z2⟩ := HZe.out.cells)
          | (go_at_call 18
             refine Calls.mono (HAU.out _) ?_
             rintro e wf ⟨D, rfl, ⟨Au, cu, rfl, hu1, hu2, _⟩, hBf⟩
             have HBf := Lib.hid (bel HBe.out hBf)
             clear hBf hu1 hu2 x0 x1 x2 y0 y1 y2 z0 z1 z2))
        go_roundw
        case rel => exact ⟨k + 1, by go_num, by omega, by first | (rw [HIN.out, Bool.true_or]; done) | (rw [HIN.out, Bool.false_or, ← beq_list]; done), HBf⟩
        case measure => simp [intOf]; omega

end Go.Proofs.Ytjjenpklcbpkmaa
