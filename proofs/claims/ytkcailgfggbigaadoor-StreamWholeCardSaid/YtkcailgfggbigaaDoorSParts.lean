/-
  THE WALK OF StreamParts.
-/
import Derived.Test.YtkcailgfggbigaaDoorSDoes
import Derived.Deep.CutRange
namespace Go.Proofs.YtkcailgfggbigaaDoor
open Go.RowKit Go.Shelf Go.Proofs.Gear Go.Proofs.Mem
attribute [local go_sem] Oper.semAt_some
set_option linter.unusedVariables false

/-- Texts that a call has laid in a block of its own. -/
def OwnS (w : World) (B : Nat) (v : Value) (l : List ByteArray) : Prop := w.ownsRow B 9 1 v l.length (l.map .string)
theorem OwnS.on {w w' : World} {B : Nat} {v : Value} {l : List ByteArray} (h : OwnS w B v l) (hb : Below w.heap.size w w') : OwnS w' B v l := own_on h hb
theorem OwnS.strs {w : World} {B : Nat} {v : Value} {l : List ByteArray} (h : OwnS w B v l) : Strs w w.heap.size v l := strs_of_own h
theorem OwnS.base {w : World} {B B' : Nat} {v : Value} {l : List ByteArray} (h : OwnS w B v l) (hB : B' ≤ B) : OwnS w B' v l :=
  ⟨h.1, h.2.imp id (by rintro ⟨g, cap, cur, h1, h2, h3⟩; exact ⟨g, cap, cur, h1, Nat.le_trans hB h2, h3⟩)⟩
theorem OwnS.set {w : World} {B C : Nat} {v : Value} {l : List ByteArray} (h : OwnS w B v l) (hC : C < B) (u : Value) : OwnS (w.setCell ⟨C, 0, none⟩ u) B v l := by
  refine h.kept (grownBy_setCell' w C u) ?_
  rcases h.2 with ⟨e, _⟩ | ⟨g, cap, cur, e, hg, _⟩
  · exact .inl (by rw [e]; rfl)
  · refine .inr fun h => ?_
    rw [e] at h
    have : g = C := by simpa [Value.ownBlock] using h
    omega

theorem parts_law (mn av mx b : Nat) (hm : mn ≤ mx) (h1 : 1 ≤ mn) (t s : ByteArray) (k : Nat) (hk : k ≤ s.size) :
    fed mn av mx b mx (t ++ s) = ((fed mn av mx b mx (t ++ s.extract 0 k)).1 ++ (fed mn av mx b mx ((fed mn av mx b mx (t ++ s.extract 0 k)).2 ++ s.extract k s.size)).1, (fed mn av mx b mx ((fed mn av mx b mx (t ++ s.extract 0 k)).2 ++ s.extract k s.size)).2) := by
  rw [← fed_append mn av mx b hm h1 (s.extract k s.size) _ (t ++ s.extract 0 k) (Nat.le_refl _)]
  congr 1
  apply bytes_ext
  have := congrArg (fun x => x.data.toList) (cut_join s k)
  simp only [toList_append] at this ⊢
  rw [List.append_assoc, this]

theorem kept_at {W W' : World} {g : Nat} {v : Value} (h : W.cell? ⟨g, 0, none⟩ = some v) (hb : Below W.heap.size W W') (hg : g < W.heap.size) : W'.cell? ⟨g, 0, none⟩ = some v := (hb.cell (p := ⟨g, 0, none⟩) hg).trans h
theorem free_at {W W' : World} {g : Nat} (h : W.frozen? ⟨g, 0, none⟩ = false) (hb : Below W.heap.size W W') (hg : g < W.heap.size) : W'.frozen? ⟨g, 0, none⟩ = false := (World.frozen?_of_block (a := ⟨g, 0, none⟩) (hb.block _ hg)).trans h

/-- What a box with a stream holds, and texts, behind a region. -/
def Fedden (W wx : World) (p q : Value) (r : List ByteArray × ByteArray) : Prop :=
  ∃ gb, p = .pointer (some ⟨gb, 0, none⟩) ∧ wx.cell? ⟨gb, 0, none⟩ = some (.string r.2) ∧ gb < wx.heap.size ∧ OwnS wx W.heap.size q r.1 ∧ Below W.heap.size W wx
theorem fedden_call {W wf : World} {v : Value} {r : List ByteArray × ByteArray} {B : Nat} (hr : OwnS wf B v r.1) (hB : W.heap.size ≤ B) (hb : Below W.heap.size W wf) :
    Fedden W (wf.alloc (.cells #[.string r.2] 32)) (.pointer (some ⟨wf.heap.size, 0, none⟩)) v r :=
  ⟨_, rfl, by go_simp, by simp, (hr.base hB).on ((Below.refl _ _).alloc (Nat.le_refl _) _), hb.alloc hb.size _⟩
theorem fedden_box {W wf : World} {v : Value} {r : List ByteArray × ByteArray} (hr : OwnS wf (W.heap.size + 1) v r.1) (hc : wf.cell? ⟨W.heap.size, 0, none⟩ = some (.string ⟨#[]⟩)) (hb : Below W.heap.size W wf) (hs : W.heap.size < wf.heap.size) :
    Fedden W (wf.setCell ⟨W.heap.size, 0, none⟩ (.string r.2)) (.pointer (some ⟨W.heap.size, 0, none⟩)) v r :=
  ⟨_, rfl, World.cell?_setCell_same' _ _ _ (by rw [hc]; rfl), by simpa using hs, (hr.set (Nat.lt_succ_self _) _).base (Nat.le_succ _), hb.setCell (p := ⟨W.heap.size, 0, none⟩) (Nat.le_refl _) _⟩

theorem new_cell (V : World) (x : Value) (t : TypeId) : (V.alloc (.cells #[x] t)).cell? ⟨V.heap.size, 0, none⟩ = some x := by go_simp
theorem new_free (V : World) (x : Value) (t : TypeId) : (V.alloc (.cells #[x] t)).frozen? ⟨V.heap.size, 0, none⟩ = false := by go_simp
/-- Feed behind a draw. -/
theorem feed_plain {mn av mx b : Nat} (hf : FitN mn av mx b) (t s : ByteArray) (hs : t.size + s.size ≤ 100000) (W : World) (hL : Laid W) :
    Calls Tryd.prog 20 #[.agg #[.int .i64 mn, .int .i64 av, .int .i64 mx], .agg #[.string t], .string s] W.drew fun e w' =>
      ∃ v, e = .returned (.tuple #[.agg #[.string (fed mn av mx b mx (t ++ s)).2], v]) ∧ OwnS w' W.heap.size v (fed mn av mx b mx (t ++ s)).1 ∧ Below W.heap.size W w' := by
  refine (feed_any hf t s hs W.drew (hL.on (Below.refl _ _).drew)).mono ?_
  rintro e w' ⟨v, rfl, hr, hB⟩
  exact ⟨v, rfl, hr, (Below.refl W.heap.size W).drew.trans hB⟩
/-- Feed behind a draw, where the box for what comes was laid ahead. -/
theorem feed_box {mn av mx b : Nat} (hf : FitN mn av mx b) (t s : ByteArray) (hs : t.size + s.size ≤ 100000) (W : World) (hL : Laid W) :
    Calls Tryd.prog 20 #[.agg #[.int .i64 mn, .int .i64 av, .int .i64 mx], .agg #[.string t], .string s] (W.drew.alloc (.cells #[.string ⟨#[]⟩] 32)) fun e w' =>
      ∃ v, e = .returned (.tuple #[.agg #[.string (fed mn av mx b mx (t ++ s)).2], v]) ∧ OwnS w' (W.heap.size + 1) v (fed mn av mx b mx (t ++ s)).1 ∧ w'.cell? ⟨W.heap.size, 0, none⟩ = some (.string ⟨#[]⟩) ∧ w'.frozen? ⟨W.heap.size, 0, none⟩ = false ∧ Below W.heap.size W w' ∧ W.heap.size < w'.heap.size := by
  have hb : Below W.heap.size W (W.drew.alloc (.cells #[.string ⟨#[]⟩] 32)) := (Below.refl W.heap.size W).drew.alloc (Nat.le_refl _) _
  have hsz : (W.drew.alloc (.cells #[.string ⟨#[]⟩] 32)).heap.size = W.heap.size + 1 := by simp
  have hc : (W.drew.alloc (.cells #[.string ⟨#[]⟩] 32)).cell? ⟨W.heap.size, 0, none⟩ = some (.string ⟨#[]⟩) := new_cell W.drew _ _
  have hz : (W.drew.alloc (.cells #[.string ⟨#[]⟩] 32)).frozen? ⟨W.heap.size, 0, none⟩ = false := new_free W.drew _ _
  refine (feed_any hf t s hs _ (hL.on hb)).mono ?_
  rintro e w' ⟨v, rfl, hr, hB⟩
  rw [hsz] at hr
  exact ⟨v, rfl, hr, kept_at hc hB (by omega), free_at hz hB (by omega), hb.trans (hB.mono (by omega)), by have := hB.size; omega⟩

theorem sp_keep {w W5 w' : World} {mn av mx : Int} {t : ByteArray} (HT : Hid (Two w W5 mn av mx t)) (hB : Hid (Below W5.heap.size W5 w')) :
    w'.cell? ⟨w.heap.size, 0, none⟩ = some (.int .i64 mn) ∧ w'.cell? ⟨w.heap.size, 1, none⟩ = some (.int .i64 av) ∧ w'.cell? ⟨w.heap.size, 2, none⟩ = some (.int .i64 mx) ∧ w'.cell? ⟨w.heap.size + 1, 0, none⟩ = some (.string t) ∧ Hid (Below W5.heap.size W5 w') := by
  obtain ⟨a, b, c, d, -⟩ := HT.out.on hB.out
  exact ⟨a, b, c, d, hB⟩

theorem sp_keep2 {w W5 w' : World} {mn av mx : Int} {t x : ByteArray} {gb : Nat} (HT : Hid (Two w W5 mn av mx t)) (hc : Hid (W5.cell? ⟨gb, 0, none⟩ = some (.string x))) (hg : gb < W5.heap.size) (hB : Hid (Below W5.heap.size W5 w')) :
    w'.cell? ⟨w.heap.size, 0, none⟩ = some (.int .i64 mn) ∧ w'.cell? ⟨w.heap.size, 1, none⟩ = some (.int .i64 av) ∧ w'.cell? ⟨w.heap.size, 2, none⟩ = some (.int .i64 mx) ∧ w'.cell? ⟨gb, 0, none⟩ = some (.string x) ∧ Hid (Below W5.heap.size W5 w') := by
  obtain ⟨a, b, c, d, -⟩ := HT.out.on hB.out
  exact ⟨a, b, c, kept_at hc.out hB.out hg, hB⟩

set_option maxHeartbeats 1000000 in
theorem sparts_walk (mn av mx : Int) (t s : ByteArray) (c : Nat) (w : World) (hL : Laid w) (hm : mn ≤ 9223372036854775807) (ht' : t.size ≤ 9223372036854775807) (hs' : s.size ≤ 9223372036854775807) (hc : c < 65536) :
    Calls Tryd.prog 9 #[.agg #[.int .i64 mn, .int .i64 av, .int .i64 mx], .agg #[.string t], .string s, .int .u16 c] w fun e w' => e = .returned (.bool true) ∧ Below w.heap.size w w' := by
  have HL := Lib.hid hL
  clear hL
  go_enter Tryd.func9, Tryd.ntmps9
  by_cases ha : 1000 < t.size
  · go_wp2_with (go_at_call 19; refine Calls.mono (awake8_any _ (HL.out.on (by go_grown))) ?_; rintro e w1 ⟨rfl, hB1⟩)
    go_ret
    exact ⟨rfl, bel (by go_grown) hB1⟩
  by_cases hb : 1000 < s.size
  · go_wp2_with (go_at_call 19; refine Calls.mono (awake8_any _ (HL.out.on (by go_grown))) ?_; rintro e w1 ⟨rfl, hB1⟩)
    go_ret
    exact ⟨rfl, bel (by go_grown) hB1⟩
  have hd1 : decide ((1000 : Int) < (t.size : Int)) = false := decide_eq_false (by omega)
  have hd2 : decide ((1000 : Int) < (s.size : Int)) = false := decide_eq_false (by omega)
  rcases fitB_cases mn av mx hm with hf | ⟨hf, mn, av, mx, b, rfl, rfl, rfl, hfit⟩
  · have HF := Lib.hid hf
    clear hf
    go_wp2_with (first | (go_at_call 18; refine Calls.mono (sfit_any _ _ _ _) ?_; rintro e w1 ⟨rfl, hB1⟩; rw [HF.out]; have HB1 : Hid (Below w.heap.size w w1) := Lib.hid (bel (by go_grown) hB1); clear hB1) | (go_at_call 19; refine Calls.mono (awake8_any _ (HL.out.on HB1.out)) ?_; rintro e w2 ⟨rfl, hB2⟩))
    go_ret
    exact ⟨rfl, bel HB1.out hB2⟩
  have HF := Lib.hid hf
  clear hf
  have HFit := Lib.hid hfit
  clear hfit
  obtain ⟨k, hk⟩ : ∃ k, k = c % (s.size + 1) := ⟨_, rfl⟩
  have hk1 : k ≤ s.size := by have h := Nat.mod_lt c (Nat.succ_pos s.size); rw [← Nat.succ_eq_add_one] at hk; omega
  have hkt : (c : Int).tmod ((s.size : Int) + 1) = (k : Int) := by
    rw [hk, Int.tmod_eq_emod_of_nonneg (Int.natCast_nonneg _)]; rfl
  have HK := Lib.hid hk
  clear hk
  have hi1 : (0 : Int) ≤ (k : Int) := Int.natCast_nonneg _
  have hi2 : (k : Int) ≤ (s.size : Int) := by omega
  have hz : ((s.size : Int) + 1 == 0) = false := beq_eq_false_iff_ne.2 (by omega)
  obtain ⟨r, hr⟩ : ∃ r, r = fed mn av mx b mx (t ++ s) := ⟨_, rfl⟩
  have HR := Lib.hid hr
  clear hr
  go_wp2_with (first
    | (go_at_call 18; refine Calls.mono (sfit_any _ _ _ _) ?_; rintro e w1 ⟨rfl, hB1⟩; rw [HF.out]; have hT1 := Two.start HL.out hB1; have HT1 := Lib.hid hT1; obtain ⟨x1, x2, x3, x4, -⟩ := hT1; clear hB1)
    | (go_at_call 20; refine Calls.mono (feed_any HFit.out t s (by omega) _ HT1.out.2.2.2.2.out.1) ?_; rw [← HR.out]; rintro e w2 ⟨v, rfl, hr, hB2⟩; have hS : OwnS w2 w1.heap.size v r.1 := hr; have HS2 := Lib.hid hS; clear hS hr;
        have hb2 : Below w2.heap.size w2 (w2.alloc (.cells #[.string r.2] 32)) := (Below.refl _ _).alloc (Nat.le_refl _) _;
        have hT2 := (HT1.out.on hB2).on hb2; have HT2 := Lib.hid hT2; have HS3 := Lib.hid (HS2.out.on hb2); clear hB2 hb2 HS2 hT2;
        have hb3 : (w2.alloc (.cells #[.string r.2] 32)).cell? ⟨w2.heap.size, 0, none⟩ = some (.string r.2) := by go_simp))
  have hlt2 : w2.heap.size < (w2.alloc (.cells #[.string r.2] 32)).heap.size := by simp
  clear x1 x2 x3 x4 HT1
  generalize w2.alloc (.cells #[.string r.2] 32) = W5 at *
  have HA := Lib.hid hb3
  clear hb3
  obtain ⟨r1, hr1⟩ : ∃ r1, r1 = fed mn av mx b mx (t ++ s.extract 0 k) := ⟨_, rfl⟩
  have HR1 := Lib.hid hr1
  clear hr1
  have hsk : (s.extract 0 k).size = k := by rw [ByteArray.size_extract]; omega
  have HSK := Lib.hid (show t.size + (s.extract 0 k).size ≤ 100000 by omega)
  clear hsk
  have hS0 := sp_keep HT2 (Lib.hid (Below.refl W5.heap.size W5).drew)
  go_cut [12, 13] from 44 to 52 (fun p q wx => Hid (Fedden W5 wx p q r1))
  case first =>
    go_region_held3 (fun w' => w'.cell? ⟨w.heap.size, 0, none⟩ = some (.int .i64 mn) ∧ w'.cell? ⟨w.heap.size, 1, none⟩ = some (.int .i64 av) ∧ w'.cell? ⟨w.heap.size, 2, none⟩ = some (.int .i64 mx) ∧ w'.cell? ⟨w.heap.size + 1, 0, none⟩ = some (.string t) ∧ Hid (Below W5.heap.size W5 w'))
      (first
        | exact hS0
        | exact sp_keep HT2 HBW
        | exact sp_keep HT2 (Lib.hid (HBW.out.alloc HBW.out.size _))
        | exact sp_keep HT2 (Lib.hid (HBW.out.setCell (p := ⟨W5.heap.size, 0, none⟩) (Nat.le_refl _) _))
        | exact sp_keep HT2 (Lib.hid ((Below.refl W5.heap.size W5).drew.alloc (Nat.le_refl _) _)))
      (first
        | (go_at_call 20; refine Calls.mono (feed_box HFit.out t (s.extract 0 k) HSK.out W5 HT2.out.2.2.2.2.out.1) ?_; rw [← HR1.out]; rintro e wf ⟨v2, rfl, hr, hcz, hfz, hBf, hsz⟩; have HRR := Lib.hid hr; have HBW := Lib.hid hBf; have HSZ := Lib.hid hsz; clear hr hBf hsz)
        | (go_at_call 20; refine Calls.mono (feed_plain HFit.out t (s.extract 0 k) HSK.out W5 HT2.out.2.2.2.2.out.1) ?_; rw [← HR1.out]; rintro e wf ⟨v2, rfl, hr, hBf⟩; have HRR := Lib.hid hr; have HBW := Lib.hid hBf; clear hr hBf))
    · go_wp2
      go_meet
      exact Lib.hid (fedden_call HRR.out (Nat.le_refl _) HBW.out)
    · go_wp2
      go_meet
      exact Lib.hid (fedden_box HRR.out hcz HBW.out HSZ.out)
  case rest =>
    rename World => W6
    obtain ⟨gb, rfl, hcb, hgb, hO, hB5⟩ := hcut.out
    clear hcut hS0
    obtain ⟨r2, hr2⟩ : ∃ r2, r2 = fed mn av mx b mx (r1.2 ++ s.extract k s.size) := ⟨_, rfl⟩
    have hpl := parts_law mn av mx b (Nat.le_trans HFit.out.min HFit.out.max) HFit.out.one t s k hk1
    have hrs := (fed_rest mn av mx b mx (Nat.le_trans HFit.out.min HFit.out.max) HFit.out.one (Nat.le_trans HFit.out.one (Nat.le_trans HFit.out.min HFit.out.max)) _ (t ++ s.extract 0 k) (Nat.le_refl _)).2.1
    rw [← HR1.out, ByteArray.size_append, ByteArray.size_extract] at hrs
    rw [← HR1.out, ← hr2, ← HR.out] at hpl
    have hsk2 : r1.2.size + (s.extract k s.size).size ≤ 100000 := by rw [ByteArray.size_extract]; omega
    have HSK2 := Lib.hid hsk2
    have HR2 := Lib.hid hr2
    have HPL := Lib.hid hpl
    have hTc := HT2.out.on hB5
    have HTc := Lib.hid hTc
    have HAc := Lib.hid (kept_at HA.out hB5 hlt2)
    have HSc := Lib.hid (HS3.out.on hB5)
    have HO := Lib.hid hO
    have hltc := Nat.lt_of_lt_of_le hlt2 hB5.size
    have HCB := Lib.hid hcb
    have hS1 := sp_keep2 HTc HCB hgb (Lib.hid (Below.refl W6.heap.size W6).drew)
    clear hsk2 hr2 hpl hrs hTc hcb hO HT2 HA HS3 hlt2 hB5 HSK
    go_wp2
    go_cut [14, 15] from 53 to 61 (fun p q wx => Hid (Fedden W6 wx p q r2))
    case first =>
      go_region_held3 (fun w' => w'.cell? ⟨w.heap.size, 0, none⟩ = some (.int .i64 mn) ∧ w'.cell? ⟨w.heap.size, 1, none⟩ = some (.int .i64 av) ∧ w'.cell? ⟨w.heap.size, 2, none⟩ = some (.int .i64 mx) ∧ w'.cell? ⟨gb, 0, none⟩ = some (.string r1.2) ∧ Hid (Below W6.heap.size W6 w'))
        (first
          | exact hS1
          | exact sp_keep2 HTc HCB hgb HBW
          | exact sp_keep2 HTc HCB hgb (Lib.hid (HBW.out.alloc HBW.out.size _))
          | exact sp_keep2 HTc HCB hgb (Lib.hid (HBW.out.setCell (p := ⟨W6.heap.size, 0, none⟩) (Nat.le_refl _) _))
          | exact sp_keep2 HTc HCB hgb (Lib.hid ((Below.refl W6.heap.size W6).drew.alloc (Nat.le_refl _) _)))
        (first
          | (go_at_call 20; refine Calls.mono (feed_box HFit.out r1.2 (s.extract k s.size) HSK2.out W6 HTc.out.2.2.2.2.out.1) ?_; rw [← HR2.out]; rintro e wf ⟨v2, rfl, hr, hcz, hfz, hBf, hsz⟩; have HRR := Lib.hid hr; have HBW := Lib.hid hBf; have HSZ := Lib.hid hsz; clear hr hBf hsz)
          | (go_at_call 20; refine Calls.mono (feed_plain HFit.out r1.2 (s.extract k s.size) HSK2.out W6 HTc.out.2.2.2.2.out.1) ?_; rw [← HR2.out]; rintro e wf ⟨v2, rfl, hr, hBf⟩; have HRR := Lib.hid hr; have HBW := Lib.hid hBf; clear hr hBf))
      · go_wp2
        go_meet
        exact Lib.hid (fedden_call HRR.out (Nat.le_refl _) HBW.out)
      · go_wp2
        go_meet
        exact Lib.hid (fedden_box HRR.out hcz HBW.out HSZ.out)
    case rest =>
      obtain ⟨gc, rfl, hcc, hgc, hO2, hB6⟩ := hcut.out
      have e1 : r.1 = r1.1 ++ r2.1 := by rw [HPL.out]
      have e2 : r.2 = r2.2 := by rw [HPL.out]
      have hac := kept_at HAc.out hB6 hltc
      have hT7 := Lib.hid (HTc.out.on hB6)
      have hSl := (HSc.out.on hB6).strs
      have hSm := (HO.out.on hB6).strs
      have hSn := hO2.strs
      rw [e2] at hac
      rw [e1] at hSl
      have HSl := Lib.hid hSl
      have HSm := Lib.hid hSm
      have HSn := Lib.hid hSn
      have hlt7 := Nat.lt_of_lt_of_le hltc hB6.size
      have hl1 : r1.1.length ≤ 100000 := by
        have := (fed_rest mn av mx b mx (Nat.le_trans HFit.out.min HFit.out.max) HFit.out.one (Nat.le_trans HFit.out.one (Nat.le_trans HFit.out.min HFit.out.max)) _ (t ++ s.extract 0 k) (Nat.le_refl _)).2.2
        rw [← HR1.out, ByteArray.size_append, ByteArray.size_extract] at this
        omega
      have hl2 : r2.1.length ≤ 100000 := by
        have := (fed_rest mn av mx b mx (Nat.le_trans HFit.out.min HFit.out.max) HFit.out.one (Nat.le_trans HFit.out.one (Nat.le_trans HFit.out.min HFit.out.max)) _ (r1.2 ++ s.extract k s.size) (Nat.le_refl _)).2.2
        rw [← HR2.out, ByteArray.size_append] at this
        have := HSK2.out
        omega
      clear hcut hSl hSm hSn hO2 hB6 hltc HTc HAc HSc HO HCB hS1 e1 HPL hgb HR1 HR2 HSK2 HR HK
      obtain ⟨i0, hi, hz0, hz1, hz2⟩ := info_parts Tryd.infoS
      obtain ⟨A1, c1, rfl, hm1, hm2, hrow1⟩ := HSm.out
      obtain ⟨A2, c2, rfl, hm3, hm4, hrow2⟩ := HSn.out
      have hb0 : Below wc.heap.size wc (wc.alloc (.cells #[] 9)) := (Below.refl _ _).alloc (Nat.le_refl _) _
      have hown0 : (wc.alloc (.cells #[] 9)).ownsRow wc.heap.size 9 1 (.slice (some ⟨wc.heap.size, 0, none⟩) 0 0) 0 [] :=
        ⟨rfl, .inr ⟨wc.heap.size, 0, #[], rfl, Nat.le_refl _, World.alloc_heap_new wc _, Nat.le_refl _, Nat.zero_le _, rfl, rfl⟩⟩
      have HRow1 := Lib.hid (hrow1.below hb0)
      have HRow2 := Lib.hid hrow2
      have HOwn0 := Lib.hid hown0
      have HB0 := Lib.hid hb0
      clear hrow1 hrow2 hown0 hb0 HSm HSn
      go_wp2_with (first
        | (go_at_call 22; refine Calls.mono (same_any (r1.1 ++ r2.1) _ _ _ (HSl.out.on HB5.out) HS5.out) ?_; rintro e w6 ⟨rfl, hB6⟩; have HB6 := Lib.hid (bel HB5.out hB6); clear hB6)
        | (go_at_call 19; refine Calls.mono (awake8_any _ (hT7.out.2.2.2.2.out.1.on HB6.out)) ?_; rintro e w7 ⟨rfl, hB7⟩)
        | (at_builtin; refine Go.BigFrame.wpList_want (by kernel_rfl) fun K hK => wp_append_row _ (.tmp 69) (.tmp 70) 26 rfl wc.heap.size 9 i0 _ 16 Tryd.underlying26 hi hz0 hz1 hz2 rfl v4 (0 + r1.1.length) ([] ++ r1.1.map .string) rfl HO4.out wc.heap.size A2 r2.1.length c2 (r2.1.map .string) rfl (by simp) (HRow2.out.below HB4.out) (strs_oneCell _) (by unfold maxLen; omega) (by omega) HB4.out.size fun v5 w5 h2 h3 h4 => hK _ _ ?_
           have hs5 : OwnS w5 wc.heap.size v5 (r1.1 ++ r2.1) := by
             unfold OwnS; simpa using h2
           have HS5 := Lib.hid hs5.strs
           have HB5 := Lib.hid (HB4.out.grown h3 HB4.out.size (fun k e => (HO4.out.lt k e).1))
           clear hs5 h2 h3 h4)
        | (at_builtin; refine Go.BigFrame.wpList_want (by kernel_rfl) fun K hK => wp_append_row _ (.tmp 67) (.tmp 68) 26 rfl wc.heap.size 9 i0 _ 16 Tryd.underlying26 hi hz0 hz1 hz2 rfl (.slice (some ⟨wc.heap.size, 0, none⟩) 0 0) 0 [] rfl HOwn0.out wc.heap.size A1 r1.1.length c1 (r1.1.map .string) rfl (by simp) HRow1.out (strs_oneCell _) (by unfold maxLen; omega) (by omega) HB0.out.size fun v4 w4 h2 h3 h4 => hK _ _ ?_
           have HO4 := Lib.hid h2
           have HB4 := Lib.hid (HB0.out.grown h3 HB0.out.size (fun k e => (HOwn0.out.lt k e).1))
           clear h2 h3 h4))
      go_ret
      exact ⟨rfl, bel (bel hT7.out.2.2.2.2.out.2.1 HB6.out) hB7⟩

end Go.Proofs.YtkcailgfggbigaaDoor
