/-
  THE WALK OF StreamBytes.
-/
import Derived.Test.YtkcailgfggbigaaDoorSParts
import Derived.Deep.RegionWith
namespace Go.Proofs.YtkcailgfggbigaaDoor
open Go.RowKit Go.Shelf Go.Proofs.Gear Go.Proofs.Mem
attribute [local go_sem] Oper.semAt_some
set_option linter.unusedVariables false

/-- Of k bytes: what has come, what is left. -/
theorem bytes_step (mn av mx b : Nat) (hm : mn ≤ mx) (h1 : 1 ≤ mn) (s : ByteArray) (k : Nat) (hk : k < s.size) :
    fed mn av mx b mx (s.extract 0 (k + 1)) = ((fed mn av mx b mx (s.extract 0 k)).1 ++ (fed mn av mx b mx ((fed mn av mx b mx (s.extract 0 k)).2 ++ s.extract k (k + 1))).1, (fed mn av mx b mx ((fed mn av mx b mx (s.extract 0 k)).2 ++ s.extract k (k + 1))).2) := by
  rw [← fed_append mn av mx b hm h1 (s.extract k (k + 1)) _ (s.extract 0 k) (Nat.le_refl _)]
  congr 1
  apply bytes_ext
  rw [toList_append, toList_extract, toList_extract, toList_extract, List.drop_zero, List.drop_zero]
  have h2 : (s.data.toList.take (k + 1)).take k = s.data.toList.take k := by rw [List.take_take, Nat.min_eq_left (by omega)]
  conv => lhs; rw [← List.take_append_drop k (s.data.toList.take (k + 1)), h2]

/-- Between two feedings: the boxes, the texts that have come. -/
structure Fd (w wr : World) (gs : Nat) (mn av mx : Int) (v : Value) (r : List ByteArray × ByteArray) : Prop where
  c0 : wr.cell? ⟨w.heap.size, 0, none⟩ = some (.int .i64 mn)
  c1 : wr.cell? ⟨w.heap.size, 1, none⟩ = some (.int .i64 av)
  c2 : wr.cell? ⟨w.heap.size, 2, none⟩ = some (.int .i64 mx)
  t0 : wr.cell? ⟨gs, 0, none⟩ = some (.string r.2)
  tf : wr.frozen? ⟨gs, 0, none⟩ = false
  own : OwnS wr (gs + 1) v r.1
  bel : Below w.heap.size w wr
  lt : gs < wr.heap.size
theorem Fd.on {w wr w2 : World} {gs : Nat} {mn av mx : Int} {v : Value} {r : List ByteArray × ByteArray} (h : Fd w wr gs mn av mx v r) (hw : w.heap.size < gs) (hb : Below wr.heap.size wr w2) : Fd w w2 gs mn av mx v r :=
  have h2 := h.lt
  ⟨(hb.cell (p := ⟨w.heap.size, 0, none⟩) (by dsimp only; omega)).trans h.c0, (hb.cell (p := ⟨w.heap.size, 1, none⟩) (by dsimp only; omega)).trans h.c1, (hb.cell (p := ⟨w.heap.size, 2, none⟩) (by dsimp only; omega)).trans h.c2, kept_at h.t0 hb h2, free_at h.tf hb h2, h.own.on hb, h.bel.trans (hb.mono h.bel.size), Nat.lt_of_lt_of_le h2 hb.size⟩
/-- The stream is written back. -/
theorem Fd.set {w wr : World} {gs : Nat} {mn av mx : Int} {v : Value} {r : List ByteArray × ByteArray} (h : Fd w wr gs mn av mx v r) (hw : w.heap.size < gs) (x : ByteArray) : Fd w (wr.setCell ⟨gs, 0, none⟩ (.string x)) gs mn av mx v (r.1, x) := by
  have hb : Below gs wr (wr.setCell ⟨gs, 0, none⟩ (.string x)) := (Below.refl gs wr).setCell (p := ⟨gs, 0, none⟩) (Nat.le_refl _) _
  have hbw : Below w.heap.size w (wr.setCell ⟨gs, 0, none⟩ (.string x)) := h.bel.trans (hb.mono (by omega))
  refine ⟨(hb.cell (p := ⟨w.heap.size, 0, none⟩) hw).trans h.c0, (hb.cell (p := ⟨w.heap.size, 1, none⟩) hw).trans h.c1, (hb.cell (p := ⟨w.heap.size, 2, none⟩) hw).trans h.c2, World.cell?_setCell_same' _ _ _ (by rw [h.t0]; rfl), ?_, h.own.set (Nat.lt_succ_self _) _, hbw, by simpa using h.lt⟩
  have := h.tf
  go_simp


/-- Texts are appended. -/
theorem Fd.more {w w3 w4 : World} {gs : Nat} {mn av mx : Int} {v v4 : Value} {r : List ByteArray × ByteArray} (h : Fd w w3 gs mn av mx v r) (hw : w.heap.size < gs) {l : List ByteArray} (hg : w3.grownBy w4 v.ownBlock) (ho : OwnS w4 (gs + 1) v4 (r.1 ++ l)) : Fd w w4 gs mn av mx v4 (r.1 ++ l, r.2) := by
  have h2 := h.lt
  have hb : Below (gs + 1) w3 w4 := (Below.refl (gs + 1) w3).grown hg h2 (fun k e => (h.own.lt k e).1)
  exact ⟨(hb.cell (p := ⟨w.heap.size, 0, none⟩) (by dsimp only; omega)).trans h.c0, (hb.cell (p := ⟨w.heap.size, 1, none⟩) (by dsimp only; omega)).trans h.c1, (hb.cell (p := ⟨w.heap.size, 2, none⟩) (by dsimp only; omega)).trans h.c2, (hb.cell (p := ⟨gs, 0, none⟩) (Nat.lt_succ_self _)).trans h.t0,
    (World.frozen?_of_block (a := ⟨gs, 0, none⟩) (hb.block _ (Nat.lt_succ_self _))).trans h.tf, ho, h.bel.trans (hb.mono (by omega)), Nat.lt_of_lt_of_le h2 hb.size⟩
theorem own_more {w : World} {B n m : Nat} {v : Value} {l1 l2 : List ByteArray} (h : w.ownsRow B 9 1 v (n + m) (l1.map .string ++ l2.map .string)) (h1 : n = l1.length) (h2 : m = l2.length) : OwnS w B v (l1 ++ l2) := by
  subst h1 h2
  unfold OwnS; simpa using h

/-- Two blocks' worlds: what lies up to the stream's box, and the last box, lie as they lay. -/
structure Sb (W w' : World) (gs gu : Nat) : Prop where
  b : Below (gs + 1) W w'
  u : w'.heap[gu]? = W.heap[gu]?
theorem sb_refl (W : World) (gs gu : Nat) : Sb W W gs gu := ⟨Below.refl _ _, rfl⟩
theorem Sb.drewn {W w' : World} {gs gu : Nat} (h : Sb W w' gs gu) : Sb W w'.drew gs gu := ⟨h.b.drew, h.u⟩
theorem Sb.on {W w' w2 : World} {gs gu : Nat} (h : Sb W w' gs gu) (h1 : gs < W.heap.size) (h2 : gu < W.heap.size) (hb : Below w'.heap.size w' w2) : Sb W w2 gs gu :=
  ⟨h.b.trans (hb.mono (Nat.le_trans h1 h.b.size)), (hb.block _ (Nat.lt_of_lt_of_le h2 h.b.size)).trans h.u⟩
theorem Sb.more {W w' w2 : World} {gs gu : Nat} {row : Option Nat} (h : Sb W w' gs gu) (h2 : gu < W.heap.size) (hg : w'.grownBy w2 row) (h1 : ∀ g, row = some g → gs + 1 ≤ g) (h3 : ∀ g, row = some g → g < gu) (h4 : gs + 1 ≤ W.heap.size := by omega) : Sb W w2 gs gu :=
  ⟨h.b.grown hg (Nat.le_trans h4 h.b.size) h1, (hg.block gu (Nat.lt_of_lt_of_le h2 h.b.size) (fun e => Nat.lt_irrefl _ (h3 gu e.symm))).trans h.u⟩
theorem sb_keep {w W5 w' : World} {gs gu : Nat} {mn av mx : Int} {v : Value} {r : List ByteArray × ByteArray} {x : ByteArray} (hw : w.heap.size < gs) (HF : Hid (Fd w W5 gs mn av mx v r)) (HU : Hid (W5.cell? ⟨gu, 0, none⟩ = some (.string x))) (hu : gu < W5.heap.size) (hB : Hid (Sb W5 w' gs gu)) :
    w'.cell? ⟨w.heap.size, 0, none⟩ = some (.int .i64 mn) ∧ w'.cell? ⟨w.heap.size, 1, none⟩ = some (.int .i64 av) ∧ w'.cell? ⟨w.heap.size, 2, none⟩ = some (.int .i64 mx) ∧ w'.cell? ⟨gs, 0, none⟩ = some (.string r.2) ∧ w'.cell? ⟨gu, 0, none⟩ = some (.string x) ∧ Hid (Sb W5 w' gs gu) := by
  have h := HF.out
  have hb := hB.out.b
  exact ⟨(hb.cell (p := ⟨w.heap.size, 0, none⟩) (by dsimp only; omega)).trans h.c0, (hb.cell (p := ⟨w.heap.size, 1, none⟩) (by dsimp only; omega)).trans h.c1, (hb.cell (p := ⟨w.heap.size, 2, none⟩) (by dsimp only; omega)).trans h.c2, (hb.cell (p := ⟨gs, 0, none⟩) (Nat.lt_succ_self _)).trans h.t0, (World.cell?_of_block (a := ⟨gu, 0, none⟩) hB.out.u).trans HU.out, hB⟩

set_option maxHeartbeats 1000000 in
theorem sbytes_walk (mn av mx : Int) (s : ByteArray) (w : World) (hL : Laid w) (hm : mn ≤ 9223372036854775807) (hs' : s.size ≤ 9223372036854775807) :
    Calls Tryd.prog 10 #[.agg #[.int .i64 mn, .int .i64 av, .int .i64 mx], .string s] w fun e w' => e = .returned (.bool true) ∧ Below w.heap.size w w' := by
  have HL := Lib.hid hL
  clear hL
  go_enter Tryd.func10, Tryd.ntmps10
  by_cases ha : 600 < s.size
  · go_wp2_with (go_at_call 19; refine Calls.mono (awake8_any _ (HL.out.on (by go_grown))) ?_; rintro e w1 ⟨rfl, hB1⟩)
    go_ret
    exact ⟨rfl, bel (by go_grown) hB1⟩
  have hd1 : decide ((600 : Int) < (s.size : Int)) = false := decide_eq_false (by omega)
  rcases fitB_cases mn av mx hm with hf | ⟨hf, mn, av, mx, b, rfl, rfl, rfl, hfit⟩
  · have HF := Lib.hid hf
    clear hf
    go_wp2_with (first | (go_at_call 18; refine Calls.mono (sfit_any _ _ _ _) ?_; rintro e w1 ⟨rfl, hB1⟩; rw [HF.out]; have HB1 : Hid (Below w.heap.size w w1) := Lib.hid (bel (by go_grown) hB1); clear hB1) | (go_at_call 19; refine Calls.mono (awake8_any _ (HL.out.on HB1.out)) ?_; rintro e w2 ⟨rfl, hB2⟩))
    go_ret
    exact ⟨rfl, bel HB1.out hB2⟩
  have HF := Lib.hid hf
  clear hf
  have HFit := Lib.hid hfit
  clear hfit
  have hmm : mn ≤ mx := Nat.le_trans HFit.out.min HFit.out.max
  have hm1 := HFit.out.one
  have hmx : 1 ≤ mx := by omega
  obtain ⟨R, hR⟩ : ∃ R : Nat → List ByteArray × ByteArray, R = fun k => fed mn av mx b mx (s.extract 0 k) := ⟨_, rfl⟩
  have hR0 : R 0 = ([], ⟨#[]⟩) := by
    rw [hR]; dsimp only
    have h0 : s.extract 0 0 = ⟨#[]⟩ := size_zero (by rw [ByteArray.size_extract]; omega)
    rw [h0, fed_stop _ _ _ _ _ _ (by show 0 < mx; omega)]
  have hRl : ∀ k, k ≤ s.size → (R k).2.size < mx ∧ (R k).2.size ≤ 600 ∧ (R k).1.length ≤ 600 := by
    intro k hk
    have h := fed_rest mn av mx b mx hmm hm1 hmx _ (s.extract 0 k) (Nat.le_refl _)
    rw [ByteArray.size_extract] at h
    rw [hR]; dsimp only
    omega
  have hRs : ∀ k, k < s.size → R (k + 1) = ((R k).1 ++ (fed mn av mx b mx ((R k).2 ++ s.extract k (k + 1))).1, (fed mn av mx b mx ((R k).2 ++ s.extract k (k + 1))).2) := by
    intro k hk; rw [hR]; exact bytes_step mn av mx b hmm hm1 s k hk
  have HRd := Lib.hid hR
  have HR0 := Lib.hid hR0
  have HRl := Lib.hid hRl
  have HRs := Lib.hid hRs
  clear hR hR0 hRl hRs
  go_wp2_with (go_at_call 18; refine Calls.mono (sfit_any _ _ _ _) ?_; rintro e w1 ⟨rfl, hB1⟩; rw [HF.out]; have HB1 := Lib.hid hB1; clear hB1)
  obtain ⟨W0, hW0⟩ : ∃ W0, w.alloc (.cells #[.int .i64 mn, .int .i64 av, .int .i64 mx] 23) = W0 := ⟨_, rfl⟩
  rw [hW0] at HB1
  have hx0 : Box W0 w.heap.size mn av mx := by rw [← hW0]; exact Box.new w _ _ _ _
  have hB0 : Below w.heap.size w W0 := by rw [← hW0]; clear hx0 HB1 hW0; go_grown
  have hsz : w.heap.size < W0.heap.size := by rw [← hW0]; simp
  clear hW0
  have hx1 := hx0.on HB1.out hsz
  have hgs : w.heap.size < w1.heap.size := Nat.lt_of_lt_of_le hsz HB1.out.size
  have hb2 : Below w1.heap.size w1 (w1.alloc (.cells #[.string ⟨#[]⟩] 32)) := (Below.refl _ _).alloc (Nat.le_refl _) _
  have hx2 := hx1.on hb2 hgs
  have hFd : Fd w (w1.alloc (.cells #[.string ⟨#[]⟩] 32)) w1.heap.size mn av mx (.slice none 0 0) (R 0) := by
    rw [HR0.out]
    exact ⟨hx2.1, hx2.2.1, hx2.2.2, new_cell _ _ _, new_free _ _ _, World.ownsRow_nil _ _ _ _, bel (bel hB0 HB1.out) hb2, by simp⟩
  have HFd := Lib.hid hFd
  clear hFd hx2 hb2 hx1 hB0 hsz hx0 HB1
  generalize hgsx : w1.heap.size = gs at *
  generalize w1.alloc (.cells #[.string ⟨#[]⟩] 32) = W1 at *
  clear hgsx
  go_loopw [6, 22] (fun v i wr => ∃ k : Nat, i = .int .i64 k ∧ k ≤ s.size ∧ Hid (Fd w wr gs mn av mx v (R k))) (fun _ i _ => s.size + 1 - (intOf i).toNat)
  case atStart => exact ⟨0, rfl, Nat.zero_le _, HFd⟩
  case round =>
    obtain ⟨k, rfl, hk, hFr⟩ := hrel
    by_cases hlt : k < s.size
    · have hk0 : (0 : Int) ≤ (k : Int) := Int.natCast_nonneg _
      have hk1 : (k : Int) ≤ (k : Int) + 1 := by omega
      have hk2 : (k : Int) + 1 ≤ (s.size : Int) := by omega
      have hk3 : (k : Int) < (s.size : Int) := by omega
      have hwk : IntKind.i64.wrap ((k : Int) + 1) = (k : Int) + 1 := IntWalk.i64_in _ (by omega)
      have hwn : ((k : Int) + 1).toNat = k + 1 := by omega
      have hk4 : (0 : Int) ≤ (k : Int) + 1 := by omega
      go_wp2
      obtain ⟨hq1, hq2, hq3⟩ := HRl.out k hk
      obtain ⟨f, hf⟩ : ∃ f, f = fed mn av mx b mx ((R k).2 ++ s.extract k (k + 1)) := ⟨_, rfl⟩
      have hRk : R (k + 1) = ((R k).1 ++ f.1, f.2) := by rw [hf]; exact HRs.out k hlt
      have hfl : f.1.length ≤ 1 := by
        rw [hf]; exact fed_byte mn av mx b hmm hm1 _ (by rw [ByteArray.size_append, ByteArray.size_extract]; omega)
      have hfs : (R k).2.size + (s.extract k (k + 1)).size ≤ 100000 := by rw [ByteArray.size_extract]; omega
      have Hf := Lib.hid hf
      have HRk := Lib.hid hRk
      have Hfs := Lib.hid hfs
      clear hf hRk hfs
      obtain ⟨i0, hi, hz0, hz1, hz2⟩ := info_parts Tryd.infoS
      have HFq := Lib.hid (hFr.out.on hgs (Below.refl _ _).drew)
      obtain ⟨c0, c1, c2, t0, tf, -, -, hltq⟩ := HFq.out
      go_cut [7] from 25 to 35 (fun m wx => Hid (Fd w wx gs mn av mx u6 ((R k).1, f.2) ∧ ∃ A2 n2, m = .slice A2 f.1.length n2 ∧ Row wx wx.heap.size A2 (f.1.map .string)))
      case first =>
        go_region_with (go_at_call 20; refine Calls.mono (feed_any HFit.out (R k).2 (s.extract k (k + 1)) Hfs.out _ (HL.out.on HFq.out.bel)) ?_; rw [← Hf.out]; rintro e w2 ⟨v2, rfl, hr, hB2⟩; have hF2 := HFq.out.on hgs hB2; have HF3 := Lib.hid (hF2.set hgs f.2); have z0 := hF2.t0; have zf := hF2.tf; have HO3 := Lib.hid (OwnS.set hr hltq (.string f.2)); clear hr hB2 hF2)
        all_goals
          go_wp2
          go_meet
          obtain ⟨A2, n2, rfl, hm2, hm3, hrow⟩ := HO3.out.strs
          exact Lib.hid ⟨HF3.out, A2, n2, rfl, hrow⟩
      case rest =>
        obtain ⟨hF3, A2, n2, rfl, hrow⟩ := hcut.out
        have HF3 := Lib.hid hF3
        have HRow := Lib.hid hrow
        clear hcut hF3 hrow c0 c1 c2 t0 tf
        have hd2 : decide ((1 : Int) < (f.1.length : Int)) = false := decide_eq_false (by omega)
        have hd3 : decide (1 < f.1.length) = false := decide_eq_false (by omega)
        go_wp2_with (at_builtin; refine wpList_append_row _ rfl (.tmp 36) (.tmp 37) 26 rfl (gs + 1) 9 i0 _ 16 Tryd.underlying26 hi hz0 hz1 hz2 rfl u6 (R k).1.length ((R k).1.map .string) rfl HF3.out.own _ A2 f.1.length n2 (f.1.map .string) rfl (by simp) HRow.out (strs_oneCell _) (by unfold maxLen; omega) (by omega) HF3.out.lt ?_; intro v4 w4 h2 h3 h4; have HF4 := Lib.hid (HF3.out.more hgs h3 (own_more h2 rfl rfl)); clear h2 h3 h4)
        go_roundw
        case rel => exact ⟨k + 1, by go_num, by omega, Lib.hid (by rw [HRk.out]; exact HF4.out)⟩
        case measure => simp [intOf]; omega
    · have hkk : k = s.size := by omega
      have hRk : R k = fed mn av mx b mx s := by rw [HRd.out, hkk]; show fed mn av mx b mx (s.extract 0 s.size) = _; rw [extract_all]
      have hF := hFr.out
      obtain ⟨hr1, hr2, hr3⟩ := HRl.out k hk
      rw [hRk] at hF hr1 hr2 hr3
      have hpc := pcs_fed mn av mx b mx hmm hm1 hmx s.size s (Nat.le_refl _)
      obtain ⟨f, hf⟩ : ∃ f, f = fed mn av mx b mx s := ⟨_, rfl⟩
      rw [← hf] at hF hr1 hr2 hr3 hpc
      have hfe : fed mn av mx b mx (f.2 ++ ⟨#[]⟩) = ([], f.2) := by
        have : f.2 ++ (⟨#[]⟩ : ByteArray) = f.2 := by apply bytes_ext; rw [toList_append]; simp
        rw [this, fed_stop _ _ _ _ _ _ hr1]
      have hfs : f.2.size + (⟨#[]⟩ : ByteArray).size ≤ 100000 := by show f.2.size + 0 ≤ 100000; omega
      have HF1 := Lib.hid hF
      have HPc := Lib.hid hpc
      have HFe := Lib.hid hfe
      have HFs := Lib.hid hfs
      clear hFr hRk hf hpc hfe hfs
      obtain ⟨c0, c1, c2, t0, tf, -, -, hltq⟩ := hF
      obtain ⟨i0, hi, hz0, hz1, hz2⟩ := info_parts Tryd.infoS
      go_wp2_with (go_at_call 20; refine Calls.mono (feed_any HFit.out f.2 ⟨#[]⟩ HFs.out wr (HL.out.on HF1.out.bel)) ?_; rw [HFe.out]; rintro e w2 ⟨v2, rfl, hr, hB2⟩; have hF2 := HF1.out.on hgs hB2; have HF2 := Lib.hid hF2; have hO2 : OwnS w2 wr.heap.size v2 [] := hr; obtain ⟨A2, n2, rfl, -, -, -⟩ := hO2.strs; have hz4 := hF2.lt; clear hr hB2 hF2 hO2 c0 c1 c2 t0 tf)
      have hb5 : Below w2.heap.size w2 (w2.alloc (.cells #[.string f.2] 32)) := (Below.refl _ _).alloc (Nat.le_refl _) _
      have hu : (w2.alloc (.cells #[.string f.2] 32)).cell? ⟨w2.heap.size, 0, none⟩ = some (.string f.2) := new_cell _ _ _
      have hF5 := HF2.out.on hgs hb5
      have hne : ∀ g, u6.ownBlock = some g → g < w2.heap.size := fun g e => (HF2.out.own.lt g e).2
      have hlu : w2.heap.size < (w2.alloc (.cells #[.string f.2] 32)).heap.size := by simp
      generalize w2.alloc (.cells #[.string f.2] 32) = W5 at *
      generalize hgu : w2.heap.size = gu at *
      have HF5 := Lib.hid hF5
      have HU := Lib.hid hu
      have HNe := Lib.hid hne
      clear hF5 hu hb5 hne hgu HF2 hz4 hltq
      have hS0 := sb_keep hgs HF5 HU hlu (Lib.hid (sb_refl W5 gs gu).drewn)
      have hltW := HF5.out.lt
      have hpl : (pcs mn av mx b f.2).length ≤ 600 := by
        have := (fed_rest mn av mx b 1 hmm hm1 (Nat.le_refl _) _ f.2 (Nat.le_refl _)).2.2
        rw [fed_one mn av mx b hmm hm1 f.2] at this
        omega
      have HLd := Lib.hid (HL.out.on HF5.out.bel)
      have HOd := Lib.hid (HF5.out.own.on (Below.refl _ _).drew)
      have Hsb0 := Lib.hid (sb_refl W5 gs gu).drewn
      go_region_held3 (fun w' => w'.cell? ⟨w.heap.size, 0, none⟩ = some (.int .i64 mn) ∧ w'.cell? ⟨w.heap.size, 1, none⟩ = some (.int .i64 av) ∧ w'.cell? ⟨w.heap.size, 2, none⟩ = some (.int .i64 mx) ∧ w'.cell? ⟨gs, 0, none⟩ = some (.string f.2) ∧ w'.cell? ⟨gu, 0, none⟩ = some (.string f.2) ∧ Hid (Sb W5 w' gs gu))
        (first
          | exact hS0
          | exact sb_keep hgs HF5 HU hlu HSb5
          | exact sb_keep hgs HF5 HU hlu HSb4
          | exact sb_keep hgs HF5 HU hlu HSb3
          | exact sb_keep hgs HF5 HU hlu HSb2
          | exact sb_keep hgs HF5 HU hlu HSb1)
        (first
          | (go_at_call 23; refine Calls.mono (end_any HFit.out f.2 (by omega) W5.drew (HLd.out.on (Below.refl _ _).drew)) ?_; rintro e we ⟨⟨ve, rfl, hS, -, hBe⟩, -⟩; obtain ⟨Ae, ne, rfl, -, -, hrow⟩ := hS; have HRe := Lib.hid hrow; have HO1 := Lib.hid (HOd.out.on hBe); have HSb1 := Lib.hid (Hsb0.out.on hltW hlu hBe); have hsz1 := HSb1.out.b.size; clear hrow hBe)
          | (go_at_call 25; refine Calls.mono (whole_any HFit.out s (by omega) _) ?_; rintro e ww ⟨vw, rfl, hS, -, hBw⟩; have HSw := Lib.hid hS; have HS4 := Lib.hid ((HO2.out.on hBw).strs); have HSb3 := Lib.hid (HSb2.out.on hltW hlu hBw); clear hS hBw)
          | (go_at_call 22; refine Calls.mono (same_any (pcs mn av mx b s) _ _ _ (by rw [HPc.out]; exact HS4.out) HSw.out) ?_; rintro e ws ⟨rfl, hBs⟩; have HSb4 := Lib.hid (HSb3.out.on hltW hlu hBs); clear hBs)
          | (go_at_call 19; refine Calls.mono (awake8_any _ (HL.out.on (HF5.out.bel.trans (HSb4.out.b.mono (by omega))))) ?_; rintro e wk ⟨rfl, hBk⟩; have HSb5 := Lib.hid (HSb4.out.on hltW hlu hBk); clear hBk)
          | (rw [if_pos (by kernel_rfl)]
             refine wp_append_row _ (.tmp 49) (.tmp 52) 26 rfl (gs + 1) 9 i0 _ 16 Tryd.underlying26 hi hz0 hz1 hz2 rfl u6 f.1.length (f.1.map .string) rfl HO1.out _ Ae (pcs mn av mx b f.2).length ne ((pcs mn av mx b f.2).map .string) rfl (by simp) HRe.out (strs_oneCell _) (by unfold maxLen; omega) (by omega) (by omega) fun v4 w4 h2 h3 h4 => ?_
             have HO2 := Lib.hid (own_more h2 rfl rfl)
             have HSb2 := Lib.hid (HSb1.out.more hlu h3 (fun g e => (HO1.out.lt g e).1) HNe.out)
             clear h2 h3 h4))
      go_split_ands
      go_wp2_with fail
      go_ret
      exact ⟨rfl, HF5.out.bel.trans (HSb5.out.b.mono (by omega))⟩

end Go.Proofs.YtkcailgfggbigaaDoor
