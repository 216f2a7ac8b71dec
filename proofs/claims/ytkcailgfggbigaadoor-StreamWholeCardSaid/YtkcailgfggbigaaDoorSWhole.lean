/-
  THE WALK OF StreamWhole.
-/
import Derived.Test.YtkcailgfggbigaaDoorSBytes
namespace Go.Proofs.YtkcailgfggbigaaDoor
open Go.RowKit Go.Shelf Go.Proofs.Gear Go.Proofs.Mem
attribute [local go_sem] Oper.semAt_some
set_option linter.unusedVariables false

theorem sw_keep {w W5 w' : World} {gs : Nat} {mn av mx : Int} {v : Value} {r : List ByteArray × ByteArray} (hw : w.heap.size < gs) (HF : Hid (Fd w W5 gs mn av mx v r)) (hB : Hid (Below (gs + 1) W5 w')) :
    w'.cell? ⟨w.heap.size, 0, none⟩ = some (.int .i64 mn) ∧ w'.cell? ⟨w.heap.size, 1, none⟩ = some (.int .i64 av) ∧ w'.cell? ⟨w.heap.size, 2, none⟩ = some (.int .i64 mx) ∧ w'.cell? ⟨gs, 0, none⟩ = some (.string r.2) ∧ Hid (Below (gs + 1) W5 w') := by
  have h := HF.out
  have hb := hB.out
  exact ⟨(hb.cell (p := ⟨w.heap.size, 0, none⟩) (by dsimp only; omega)).trans h.c0, (hb.cell (p := ⟨w.heap.size, 1, none⟩) (by dsimp only; omega)).trans h.c1, (hb.cell (p := ⟨w.heap.size, 2, none⟩) (by dsimp only; omega)).trans h.c2, (hb.cell (p := ⟨gs, 0, none⟩) (Nat.lt_succ_self _)).trans h.t0, hB⟩

set_option maxHeartbeats 1000000 in
theorem swhole_walk (mn av mx : Int) (v : Value) (ls : List ByteArray) (w : World) (hL : Laid w) (hm : mn ≤ 9223372036854775807) (hv : Strs w w.heap.size v ls) :
    Calls Tryd.prog 8 #[.agg #[.int .i64 mn, .int .i64 av, .int .i64 mx], v] w fun e w' => e = .returned (.bool true) ∧ Below w.heap.size w w' := by
  have HL := Lib.hid hL
  clear hL
  obtain ⟨A0, n0, rfl, hl1, hl2, hrow0⟩ := hv
  have hll : ls.length ≤ 9223372036854775807 := Nat.le_trans hl1 (Nat.le_trans hl2 (by unfold maxLen; omega))
  have HRow0 := Lib.hid hrow0
  clear hrow0
  go_enter Tryd.func8, Tryd.ntmps8
  by_cases ha : 30 < ls.length
  · have hd1 : decide ((30 : Int) < (ls.length : Int)) = true := decide_eq_true (by omega)
    go_wp2_with (go_at_call 19; refine Calls.mono (awake8_any _ (HL.out.on (by go_grown))) ?_; rintro e w1 ⟨rfl, hB1⟩)
    go_ret
    exact ⟨rfl, bel (by go_grown) hB1⟩
  have hd1 : decide ((30 : Int) < (ls.length : Int)) = false := decide_eq_false (by omega)
  rcases fitB_cases mn av mx hm with hf | ⟨hf, mn, av, mx, b, rfl, rfl, rfl, hfit⟩
  · have HF := Lib.hid hf
    clear hf
    go_wp2_with (first | (go_at_call 18; refine Calls.mono (sfit_any _ _ _ _) ?_; rintro e w1 ⟨rfl, hB1⟩; rw [HF.out]; have HB1 : Hid (Below w.heap.size w w1) := Lib.hid (bel (by go_grown) hB1); clear hB1) | (go_at_call 19; refine Calls.mono (awake8_any _ (HL.out.on HB1.out)) ?_; rintro e w2 ⟨rfl, hB2⟩))
    go_ret
    exact ⟨rfl, bel HB1.out hB2⟩
  have HF := Lib.hid hf
  clear hf
  have HFit := Lib.hid hfit
  clear hfit
  have hmm : mn ≤ mx := Nat.le_trans HFit.out.min HFit.out.max
  have hm1 := HFit.out.one
  have hbg := HFit.out.big
  have hmx : 1 ≤ mx := by omega
  have hR0 : fed mn av mx b mx ByteArray.empty = ([], ByteArray.empty) := fed_stop _ _ _ _ _ _ (by show 0 < mx; omega)
  have HR0 := Lib.hid hR0
  clear hR0
  go_wp2_with (go_at_call 18; refine Calls.mono (sfit_any _ _ _ _) ?_; rintro e w1 ⟨rfl, hB1⟩; rw [HF.out]; have HB1 := Lib.hid hB1; clear hB1)
  obtain ⟨W0, hW0⟩ : ∃ W0, w.alloc (.cells #[.int .i64 mn, .int .i64 av, .int .i64 mx] 23) = W0 := ⟨_, rfl⟩
  rw [hW0] at HB1
  have hx0 : Box W0 w.heap.size mn av mx := by rw [← hW0]; exact Box.new w _ _ _ _
  have hB0 : Below w.heap.size w W0 := by rw [← hW0]; clear hx0 HB1 hW0; go_grown
  have hsz : w.heap.size < W0.heap.size := by rw [← hW0]; simp
  clear hW0
  have hx1 := hx0.on HB1.out hsz
  have hgs : w.heap.size < w1.heap.size := Nat.lt_of_lt_of_le hsz HB1.out.size
  have hb2 : Below w1.heap.size w1 (w1.alloc (.cells #[.string ⟨#[]⟩] 32)) := (Below.refl _ _).alloc (Nat.le_refl _) _
  have hx2 := hx1.on hb2 hgs
  have hFd : Fd w (w1.alloc (.cells #[.string ⟨#[]⟩] 32)) w1.heap.size mn av mx (.slice none 0 0) (fed mn av mx b mx (joinB (ls.take 0))) := by
    rw [show joinB (ls.take 0) = ByteArray.empty from rfl, HR0.out]
    exact ⟨hx2.1, hx2.2.1, hx2.2.2, new_cell _ _ _, new_free _ _ _, World.ownsRow_nil _ _ _ _, bel (bel hB0 HB1.out) hb2, by simp⟩
  have HFd := Lib.hid hFd
  clear hFd hx2 hb2 hx1 hB0 hsz hx0 HB1
  generalize hgsx : w1.heap.size = gs at *
  generalize w1.alloc (.cells #[.string ⟨#[]⟩] 32) = W1 at *
  clear hgsx
  go_loopw [6, 8, 22] (fun v al i wr => ∃ (k : Nat) (a : ByteArray), i = .int .i64 k ∧ k ≤ ls.length ∧ al = .string a ∧ a.size ≤ 1000 * k ∧ Hid (a = joinB (ls.take k)) ∧ Hid (Fd w wr gs mn av mx v (fed mn av mx b mx a))) (fun _ _ i _ => ls.length + 1 - (intOf i).toNat)
  case atStart => exact ⟨0, ByteArray.empty, rfl, Nat.zero_le _, rfl, by simp, Lib.hid rfl, HFd⟩
  case round =>
    obtain ⟨k, a, rfl, hk, rfl, has, HA, hFr⟩ := hrel
    obtain ⟨i0, hi, hz0, hz1, hz2⟩ := info_parts Tryd.infoS
    have hRl := fed_rest mn av mx b mx hmm hm1 hmx _ a (Nat.le_refl _)
    by_cases hlt : k < ls.length
    · obtain ⟨b1, o1, rfl, hb1, hcl1⟩ := HRow0.out.at_ (by simp; omega)
      obtain ⟨x, hx⟩ : ∃ x, ls[k]? = some x := ⟨ls[k], List.getElem?_eq_getElem (by omega)⟩
      have q1 := (hFr.out.bel.cell (p := ⟨b1, o1 + k, none⟩) hb1).trans (hcl1 k (.string x) (by rw [List.getElem?_map, hx]; rfl))
      have hjt : joinB (ls.take (k + 1)) = a ++ x := by rw [joinB_take ls k x hx, HA.out]
      have HJt := Lib.hid hjt
      clear hcl1 hx hjt
      have i1 : (k : Int) < (ls.length : Int) := by omega
      have i3 : (0 : Int) ≤ (k : Int) := by omega
      have HFq := hFr
      obtain ⟨c0, c1, c2, t0, tf, -, -, hltq⟩ := HFq.out
      by_cases hxs : 1000 < x.size
      · have hd2 : decide ((1000 : Int) < (x.size : Int)) = true := decide_eq_true (by omega)
        go_wp2_with (go_at_call 19; refine Calls.mono (awake8_any _ (HL.out.on HFq.out.bel)) ?_; rintro e w2 ⟨rfl, hB2⟩)
        go_ret
        exact ⟨rfl, bel HFq.out.bel hB2⟩
      have hd2 : decide ((1000 : Int) < (x.size : Int)) = false := decide_eq_false (by omega)
      have hac : ¬9223372036854775807 < a.size + x.size := by omega
      have hap := fed_append mn av mx b hmm hm1 x _ a (Nat.le_refl _)
      have hfa : (a ++ x).size ≤ 1000 * (k + 1) := by rw [ByteArray.size_append]; omega
      obtain ⟨q, hq⟩ : ∃ q, q = fed mn av mx b mx a := ⟨_, rfl⟩
      rw [← hq] at hap hRl t0
      have HFq : Hid (Fd w wr gs mn av mx u6 q) := by rw [hq]; exact hFr
      have hRf := fed_rest mn av mx b mx hmm hm1 hmx _ (q.2 ++ x) (Nat.le_refl _)
      obtain ⟨f, hf⟩ : ∃ f, f = fed mn av mx b mx (q.2 ++ x) := ⟨_, rfl⟩
      rw [← hf] at hap hRf
      rw [ByteArray.size_append] at hRf
      have hd3 : decide ((mx : Int) ≤ (f.2.size : Int)) = false := decide_eq_false (by omega)
      have hd4 : decide (mx ≤ f.2.size) = false := decide_eq_false (by omega)
      have Hap := Lib.hid hap
      have Hf := Lib.hid hf
      clear hap hf hq hFr
      go_wp2_with (first
        | (go_at_call 20; refine Calls.mono (feed_any HFit.out q.2 x (by omega) wr (HL.out.on HFq.out.bel)) ?_; rw [← Hf.out]; rintro e w2 ⟨v2, rfl, hr, hB2⟩; have hF2 := HFq.out.on hgs hB2; have HF3 := Lib.hid (hF2.set hgs f.2); have z0 := hF2.t0; have zf := hF2.tf; have z1 := HF3.out.t0; have z2 := HF3.out.c2; have hO3 : OwnS (w2.setCell ⟨gs, 0, none⟩ (.string f.2)) wr.heap.size v2 f.1 := OwnS.set hr hltq (.string f.2); obtain ⟨A2, n2, rfl, -, -, hrow⟩ := hO3.strs; have HRow := Lib.hid hrow; clear hr hB2 hF2 hO3 hrow c0 c1 c2 t0 tf q1)
        | (at_builtin; refine wpList_append_row _ rfl (.tmp 46) (.tmp 47) 26 rfl (gs + 1) 9 i0 _ 16 Tryd.underlying26 hi hz0 hz1 hz2 rfl u6 q.1.length (q.1.map .string) rfl HF3.out.own _ A2 f.1.length n2 (f.1.map .string) rfl (by simp) HRow.out (strs_oneCell _) (by unfold maxLen; omega) (by omega) HF3.out.lt ?_; intro v4 w4 h2 h3 h4; have HF4 := Lib.hid (HF3.out.more hgs h3 (own_more h2 rfl rfl)); clear h2 h3 h4))
      go_roundw
      case rel => exact ⟨k + 1, a ++ x, by go_num, by omega, rfl, hfa, Lib.hid HJt.out.symm, Lib.hid (by rw [Hap.out]; exact HF4.out)⟩
      case measure => simp [intOf]; omega
    · have hpc := pcs_fed mn av mx b mx hmm hm1 hmx a.size a (Nat.le_refl _)
      obtain ⟨f, hf⟩ : ∃ f, f = fed mn av mx b mx a := ⟨_, rfl⟩
      have HF5 := hFr
      rw [← hf] at hRl hpc HF5
      obtain ⟨c0, c1, c2, t0, tf, -, -, hltW⟩ := HF5.out
      have HPc := Lib.hid hpc
      have hpl : (pcs mn av mx b f.2).length ≤ 30000 := by
        have := (fed_rest mn av mx b 1 hmm hm1 (Nat.le_refl _) _ f.2 (Nat.le_refl _)).2.2
        rw [fed_one mn av mx b hmm hm1 f.2] at this
        omega
      clear hpc hf hFr
      go_wp2_with fail
      clear c0 c1 c2 t0 tf
      have hS0 := sw_keep hgs HF5 (Lib.hid (Below.refl (gs + 1) wr).drew)
      have HLd := Lib.hid (HL.out.on HF5.out.bel)
      have HOd := Lib.hid (HF5.out.own.on (Below.refl _ _).drew)
      go_region_held3 (fun w' => w'.cell? ⟨w.heap.size, 0, none⟩ = some (.int .i64 mn) ∧ w'.cell? ⟨w.heap.size, 1, none⟩ = some (.int .i64 av) ∧ w'.cell? ⟨w.heap.size, 2, none⟩ = some (.int .i64 mx) ∧ w'.cell? ⟨gs, 0, none⟩ = some (.string f.2) ∧ Hid (Below (gs + 1) wr w'))
        (first
          | exact hS0
          | exact sw_keep hgs HF5 HSb5
          | exact sw_keep hgs HF5 HSb4
          | exact sw_keep hgs HF5 HSb3
          | exact sw_keep hgs HF5 HSb2
          | exact sw_keep hgs HF5 HSb1)
        (first
          | (go_at_call 23; refine Calls.mono (end_any HFit.out f.2 (by omega) wr.drew (HLd.out.on (Below.refl _ _).drew)) ?_; rintro e we ⟨⟨ve, rfl, hS, -, hBe⟩, -⟩; obtain ⟨Ae, ne, rfl, -, -, hrow⟩ := hS; have HRe := Lib.hid hrow; have HO1 := Lib.hid (HOd.out.on hBe); have HSb1 := Lib.hid ((Below.refl (gs + 1) wr).drew.trans (hBe.mono hltW)); have hsz1 := HSb1.out.size; clear hrow hBe)
          | (go_at_call 25; refine Calls.mono (whole_any HFit.out a (by omega) _) ?_; rintro e ww ⟨vw, rfl, hS, -, hBw⟩; have HSw := Lib.hid hS; have HS4 := Lib.hid ((HO2.out.on hBw).strs); have HSb3 := Lib.hid (HSb2.out.trans (hBw.mono (Nat.le_trans hltW HSb2.out.size))); clear hS hBw)
          | (go_at_call 22; refine Calls.mono (same_any (pcs mn av mx b a) _ _ _ (by rw [HPc.out]; exact HS4.out) HSw.out) ?_; rintro e ws ⟨rfl, hBs⟩; have HSb4 := Lib.hid (HSb3.out.trans (hBs.mono (Nat.le_trans hltW HSb3.out.size))); clear hBs)
          | (go_at_call 19; refine Calls.mono (awake8_any _ (HL.out.on (HF5.out.bel.trans (HSb4.out.mono (by omega))))) ?_; rintro e wk ⟨rfl, hBk⟩; have HSb5 := Lib.hid (HSb4.out.trans (hBk.mono (Nat.le_trans hltW HSb4.out.size))); clear hBk)
          | (rw [if_pos (by kernel_rfl)]
             refine wp_append_row _ (.tmp 50) (.tmp 53) 26 rfl (gs + 1) 9 i0 _ 16 Tryd.underlying26 hi hz0 hz1 hz2 rfl u6 f.1.length (f.1.map .string) rfl HO1.out _ Ae (pcs mn av mx b f.2).length ne ((pcs mn av mx b f.2).map .string) rfl (by simp) HRe.out (strs_oneCell _) (by unfold maxLen; omega) (by omega) (by omega) fun v4 w4 h2 h3 h4 => ?_
             have HO2 := Lib.hid (own_more h2 rfl rfl)
             have HSb2 := Lib.hid (HSb1.out.grown h3 (Nat.le_trans hltW HSb1.out.size) (fun g e => (HO1.out.lt g e).1))
             clear h2 h3 h4))
      go_split_ands
      go_wp2_with fail
      go_ret
      exact ⟨rfl, HF5.out.bel.trans (HSb5.out.mono (by omega))⟩

end Go.Proofs.YtkcailgfggbigaaDoor
