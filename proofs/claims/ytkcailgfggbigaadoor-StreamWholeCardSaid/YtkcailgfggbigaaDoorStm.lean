/-
  STREAMS: the document's Feed, both Ends, Whole, Same, Fit.
-/
import Derived.Test.YtkcailgfggbigaaDoorFeed
import Derived.Test.YtkcailgfggbigaaDoorAwk7
import Derived.Deep.QuietTactic
import Derived.BigQuiet
namespace Go.Proofs.YtkcailgfggbigaaDoor
open Go.RowKit Go.Shelf Go.Proofs.Gear Go.Proofs.Mem
attribute [local go_sem] Oper.semAt_some
set_option linter.unusedVariables false

/-- A stream and texts that a call has laid. -/
def GotFed (w : World) (r : List ByteArray × ByteArray) (e : Ending) (w' : World) : Prop :=
  ∃ v, e = .returned (.tuple #[.agg #[.string r.2], v]) ∧ Strs w' w'.heap.size v r.1 ∧ (∀ g, v.ownBlock = some g → w.heap.size ≤ g) ∧ Below w.heap.size w w'

theorem sfeed_any {mn av mx b : Nat} (hf : FitN mn av mx b) (t s : ByteArray) (hs : t.size + s.size ≤ 100000) (w : World) (hL : Laid w) :
    Calls Tryd.prog 20 #[.agg #[.int .i64 mn, .int .i64 av, .int .i64 mx], .agg #[.string t], .string s] w (GotFed w (fed mn av mx b mx (t ++ s))) := by
  refine (feed_any hf t s hs w hL).mono ?_
  rintro e w' ⟨v, rfl, hr, hB⟩
  exact ⟨v, rfl, strs_of_own hr, fun g hg => (hr.lt g hg).1, hB⟩

set_option maxHeartbeats 1000000 in
theorem rfeed_any {mn av mx b : Nat} (hf : FitN mn av mx b) (t s : ByteArray) (hs : t.size + s.size ≤ 100000) (w : World) :
    Calls Tryd.prog 21 #[.agg #[.int .i64 mn, .int .i64 av, .int .i64 mx], .agg #[.string t], .string s] w (GotFed w (fed mn av mx b mx (t ++ s))) := by
  obtain ⟨i0, hi, hz0, hz1, hz2⟩ := info_parts Tryd.infoS
  have hmm : mn ≤ mx := Nat.le_trans hf.min hf.max
  have hm1 := hf.one
  have hmx : 1 ≤ mx := by omega
  have HF := Lib.hid hf
  clear hf
  have hac : ¬9223372036854775807 < t.size + s.size := by omega
  have hts : (t ++ s).size ≤ 100000 := by rw [ByteArray.size_append]; exact hs
  go_enter Tryd.func21, Tryd.ntmps21
  go_wp2
  generalize t ++ s = ts at *
  obtain ⟨W0, hW0⟩ : ∃ W0, (((w.alloc (.cells #[.int .i64 mn, .int .i64 av, .int .i64 mx] 23)).alloc (.cells #[.string t] 32)).alloc (.cells #[.string ⟨#[]⟩] 32)) = W0 := ⟨_, rfl⟩
  have hsz : W0.heap.size = w.heap.size + 3 := by rw [← hW0]; simp only [World.size_alloc]
  have k1 : W0.cell? ⟨w.heap.size, 0, none⟩ = some (.int .i64 mn) := by rw [← hW0]; clear hsz hW0; go_simp
  have k2 : W0.cell? ⟨w.heap.size, 1, none⟩ = some (.int .i64 av) := by rw [← hW0]; clear hsz hW0; go_simp
  have k3 : W0.cell? ⟨w.heap.size, 2, none⟩ = some (.int .i64 mx) := by rw [← hW0]; clear hsz hW0; go_simp
  have k4 : W0.cell? ⟨w.heap.size + 1 + 1, 0, none⟩ = some (.string ⟨#[]⟩) := by rw [← hW0]; clear hsz hW0; go_simp
  have k5 : W0.frozen? ⟨w.heap.size + 1 + 1, 0, none⟩ = false := by rw [← hW0]; clear hsz hW0; go_simp
  have hB0 : Below w.heap.size w W0 := by rw [← hW0]; clear hsz hW0; go_grown
  have hown0 : W0.ownsRow (w.heap.size + 3) 9 1 (.slice none 0 0) 0 [] := World.ownsRow_nil _ _ _ _
  rw [hW0]
  clear hW0
  have HB0 := Lib.hid hB0
  clear hB0
  go_loopw [8, 9] (fun l sv wr => ∃ (rest : ByteArray) (done : List ByteArray), sv = .string rest ∧ Hid (fed mn av mx b mx ts = (done ++ (fed mn av mx b mx rest).1, (fed mn av mx b mx rest).2)) ∧ done.length + rest.size ≤ ts.size ∧ wr.ownsRow (w.heap.size + 3) 9 1 l done.length (done.map .string) ∧ Hid (Below w.heap.size w wr) ∧ Hid (w.heap.size + 3 ≤ wr.heap.size) ∧
      wr.cell? ⟨w.heap.size, 0, none⟩ = some (.int .i64 mn) ∧ wr.cell? ⟨w.heap.size, 1, none⟩ = some (.int .i64 av) ∧ wr.cell? ⟨w.heap.size, 2, none⟩ = some (.int .i64 mx) ∧ wr.cell? ⟨w.heap.size + 1 + 1, 0, none⟩ = some (.string ⟨#[]⟩) ∧ wr.frozen? ⟨w.heap.size + 1 + 1, 0, none⟩ = false) (fun _ sv _ => strSize sv)
  case atStart => exact ⟨ts, [], rfl, Lib.hid (by simp), by simp, hown0, HB0, Lib.hid (by omega), k1, k2, k3, k4, k5⟩
  case round =>
    obtain ⟨rest, done, rfl, hp, hlen, hown, hB, hSz, c1, c2, c3, c4, c5⟩ := hrel
    by_cases h0 : rest.size < mx
    · have hd1 : decide ((mx : Int) ≤ (rest.size : Int)) = false := decide_eq_false (by omega)
      have hd2 : decide (mx ≤ rest.size) = false := decide_eq_false (by omega)
      have H0 := Lib.hid h0
      clear h0
      go_wp2
      have e0 : (wr.setCell ⟨w.heap.size + 1 + 1, 0, none⟩ (.string rest)).cell? ⟨w.heap.size + 1 + 1, 0, none⟩ = some (.string rest) := World.cell?_setCell_same' _ _ _ (by rw [c4]; rfl)
      have hB6 : Below w.heap.size w (wr.setCell ⟨w.heap.size + 1 + 1, 0, none⟩ (.string rest)) := hB.out.setCell (p := ⟨w.heap.size + 1 + 1, 0, none⟩) (by simp; omega) _
      have hr6 := hown.kept (grownBy_setCell' wr (w.heap.size + 1 + 1) (.string rest)) (by
        rcases hown.2 with ⟨e, _⟩ | ⟨g, cap, cur, e, hg, _⟩
        · exact .inl (by rw [e]; rfl)
        · refine .inr fun h => ?_
          rw [e] at h
          have : g = w.heap.size + 1 + 1 := by simpa [Value.ownBlock] using h
          omega)
      clear c1 c2 c3 c4 c5 hown
      generalize wr.setCell ⟨w.heap.size + 1 + 1, 0, none⟩ (.string rest) = w7 at *
      refine bodyPost_ret (v := .tuple #[.agg #[.string rest], u8]) ?_ rfl ?_
      · simp only [results, Tryd.f21]
        go_simp
      · refine ⟨_, by rw [hp.out, fed_stop _ _ _ _ _ rest H0.out], ?_, fun g hg => Nat.le_trans (by omega) (hr6.lt g hg).1, hB6⟩
        rw [hp.out, fed_stop _ _ _ _ _ rest H0.out, List.append_nil]
        exact strs_of_own hr6
    · have hd1 : decide ((mx : Int) ≤ (rest.size : Int)) = true := decide_eq_true (by omega)
      have hd2 : decide (mx ≤ rest.size) = true := decide_eq_true (by omega)
      obtain ⟨n, hn⟩ : ∃ n, n = cutN mn av mx b rest := ⟨_, rfl⟩
      have hn1 : 0 < n := by rw [hn]; exact cutN_pos _ _ _ _ _ hmm hm1 (by omega)
      have hn2 : n ≤ rest.size := by rw [hn]; have := cutN_le mn av mx b rest; omega
      have HN := Lib.hid hn
      clear hn
      have hi1 : (0 : Int) ≤ (n : Int) := Int.natCast_nonneg _
      have hi2 : (n : Int) ≤ (rest.size : Int) := by omega
      go_wp2_with (first | (go_at_call 17; refine Calls.mono (rcut_fit HF.out rest (by omega) _) ?_; rintro e w1 ⟨rfl, hB1⟩; rw [← HN.out]; have HB1 := Lib.hid hB1; clear hB1; have hown1 := own_on hown HB1.out; have hSz1 := HB1.out.size; have hSz2 := hSz.out) | (at_builtin; refine wpList_append_lies _ rfl _ _ _ rfl (w.heap.size + 3) 9 i0 _ 1 16 Tryd.underlying26 hi hz0 hz1 hz2 rfl (by omega) u8 done.length _ rfl (hown1.alloc _) ⟨w1.heap.size, 0, none⟩ 1 1 [.string (rest.extract 0 n)] rfl rfl (World.news_of_block (cs := #[.string (rest.extract 0 n)]) (t := 9) (fr := (0, 0)) (heap_alloc_new w1 _)) (by simp [Value.oneCell']) (by omega) (by unfold maxLen; omega) (by omega) (by simp; omega) (w1.heap.size + 1) (by simp) ?_; intro gg cap w2 hown2 hgrow hat hlt))
      have hb2 : Below (w.heap.size + 3) wr w2 := (((HB1.out.mono hSz2).alloc (by omega) _)).grown hgrow (by simp; omega) (fun k e => (hown1.lt k e).1)
      have hSz3 := hb2.size
      have hrs : (rest.extract n rest.size).size = rest.size - n := by rw [ByteArray.size_extract]; omega
      go_wp2
      go_roundw
      case rel => exact ⟨rest.extract n rest.size, done ++ [rest.extract 0 n], rfl, Lib.hid (hp.out.trans (by rw [fed_step _ _ _ _ _ hmm hm1 hmx rest h0, ← HN.out, List.append_assoc]; rfl)), by rw [List.length_append, List.length_singleton, hrs]; omega,
        by simpa using hown2, Lib.hid (hB.out.trans (hb2.mono (by omega))), Lib.hid (by omega), (hb2.cell (p := ⟨w.heap.size, 0, none⟩) (by simp)).trans c1, (hb2.cell (p := ⟨w.heap.size, 1, none⟩) (by simp)).trans c2, (hb2.cell (p := ⟨w.heap.size, 2, none⟩) (by simp)).trans c3,
        (hb2.cell (p := ⟨w.heap.size + 1 + 1, 0, none⟩) (by simp)).trans c4, (World.frozen?_of_block (a := ⟨w.heap.size + 1 + 1, 0, none⟩) (hb2.block _ (by simp))).trans c5⟩
      case measure => simp [strSize, hrs]; omega


theorem below_drewN' {B : Nat} {a w : World} (h : Below B a w) (n : Nat) : Below B a (w.drewN n) := ⟨h.os, h.tape, h.output, h.size, h.block⟩

set_option maxHeartbeats 600000 in
theorem end_any {mn av mx b : Nat} (hf : FitN mn av mx b) (t : ByteArray) (hs : t.size ≤ 100000) (w : World) (hL : Laid w) :
    Calls Tryd.prog 23 #[.agg #[.int .i64 mn, .int .i64 av, .int .i64 mx], .agg #[.string t]] w fun e w' => GotStrs w (pcs mn av mx b t) e w' ∧ ∃ v, e = .returned v ∧ w'.ownsRow w.heap.size 9 1 v (pcs mn av mx b t).length ((pcs mn av mx b t).map .string) := by
  have hmm : mn ≤ mx := Nat.le_trans hf.min hf.max
  have hm1 := hf.one
  have HF := Lib.hid hf
  clear hf
  have HL := Lib.hid hL
  clear hL
  go_enter Tryd.func23, Tryd.ntmps23
  go_wp2_with (go_at_call 33; refine Calls.mono (pieces_fn _ _ _) ?_; rintro e w' ⟨rfl, rfl⟩)
  obtain ⟨W0, hW0⟩ : ∃ W0, (((((w.alloc (.cells #[.int .i64 mn, .int .i64 av, .int .i64 mx] 23)).alloc (.cells #[.string t] 32)).alloc (.cells #[.string t, .int .i64 mn, .int .i64 av, .int .i64 mx] 53)).alloc (.cells #[.pointer (some ⟨w.heap.size + 1 + 1, 0, none⟩)] 51)).alloc (.cells #[.int .i64 1] 3)) = W0 := ⟨_, rfl⟩
  have hsz : W0.heap.size = w.heap.size + 5 := by rw [← hW0]; simp only [World.size_alloc]
  have hK : Cutter W0 (w.heap.size + 1 + 1) (w.heap.size + 1 + 1 + 1) (w.heap.size + 1 + 1 + 1 + 1) t mn av mx 1 := by
    rw [← hW0]; clear hW0 hsz
    refine ⟨?_, ?_, ?_, ?_, ?_, ?_, ?_⟩
    all_goals go_simp
  have hB0 : Below w.heap.size w W0 := by rw [← hW0]; clear hsz hW0; go_grown
  rw [hW0]
  clear hW0
  have hLV : ∀ V : World, Below (w.heap.size + 1 + 1) W0 V → Laid V := fun V hV => HL.out.on (hB0.trans (hV.mono (by omega)))
  refine Calls.mono (collect_any HF.out (w.heap.size + 1 + 1) (w.heap.size + 1 + 1 + 1) (w.heap.size + 1 + 1 + 1 + 1) 1 W0 (by omega) (by omega) (by omega) (by omega) (by omega) (by omega) (by omega) t hs hLV hK) ?_
  rintro e w' ⟨v, rfl, hr, hK', hB'⟩
  rw [fed_one mn av mx b hmm hm1 t] at hr
  have hr' : w'.ownsRow w.heap.size 9 1 v (pcs mn av mx b t).length ((pcs mn av mx b t).map .string) := ⟨hr.1, hr.2.imp id (by rintro ⟨g, cap, cur, h1, h2, h3⟩; exact ⟨g, cap, cur, h1, by omega, h3⟩)⟩
  dsimp only
  go_wp2
  go_ret
  exact ⟨⟨v, rfl, strs_of_own hr', fun g hg => (hr'.lt g hg).1, hB0.trans (hB'.mono (by omega))⟩, v, rfl, hr'⟩

theorem rend_any {mn av mx b : Nat} (hf : FitN mn av mx b) (t : ByteArray) (hs : t.size ≤ 100000) (w : World) :
    Calls Tryd.prog 24 #[.agg #[.int .i64 mn, .int .i64 av, .int .i64 mx], .agg #[.string t]] w fun e w' => GotStrs w (pcs mn av mx b t) e w' := by
  have HF := Lib.hid hf
  clear hf
  go_enter Tryd.func24, Tryd.ntmps24
  go_wp2_with (go_at_call 15; refine Calls.mono (rpieces_any HF.out t hs _) ?_; rintro e w' ⟨v, rfl, hS, hg, hB⟩)
  go_ret
  have hB0 : Below w.heap.size w w' := bel (by go_grown) hB
  exact ⟨v, rfl, hS, fun g h => Nat.le_trans (by simp; omega) (hg g h), hB0⟩

theorem whole_any {mn av mx b : Nat} (hf : FitN mn av mx b) (t : ByteArray) (hs : t.size ≤ 100000) (w : World) :
    Calls Tryd.prog 25 #[.agg #[.int .i64 mn, .int .i64 av, .int .i64 mx], .string t] w fun e w' => GotStrs w (pcs mn av mx b t) e w' := by
  have HF := Lib.hid hf
  clear hf
  go_enter Tryd.func25, Tryd.ntmps25
  go_wp2_with (go_at_call 15; refine Calls.mono (rpieces_any HF.out t hs _) ?_; rintro e w' ⟨v, rfl, hS, hg, hB⟩)
  go_ret
  have hB0 : Below w.heap.size w w' := bel (by go_grown) hB
  exact ⟨v, rfl, hS, fun g h => Nat.le_trans (by simp) (hg g h), hB0⟩

theorem sfit_any (mn av mx : Int) (w : World) :
    Calls Tryd.prog 18 #[.agg #[.int .i64 mn, .int .i64 av, .int .i64 mx]] w fun e w' => e = .returned (.bool (fitB mn av mx)) ∧ Below w.heap.size w w' := by
  go_enter Tryd.func18, Tryd.ntmps18
  go_wp2_with (go_at_call 12; refine Calls.mono (rfit_any _ _ _ _) ?_; rintro e w' ⟨rfl, hB⟩)
  go_ret
  exact ⟨rfl, bel (by go_grown) hB⟩

set_option maxHeartbeats 600000 in
/-- The same lists. -/
theorem same_any (l : List ByteArray) (u v : Value) (w : World) (h1 : Strs w w.heap.size u l) (h2 : Strs w w.heap.size v l) :
    Calls Tryd.prog 22 #[u, v] w fun e w' => e = .returned (.bool true) ∧ Below w.heap.size w w' := by
  obtain ⟨A1, c1, rfl, hm1, hm2, hr1⟩ := h1
  obtain ⟨A2, c2, rfl, hm3, hm4, hr2⟩ := h2
  have hla : l.length ≤ 9223372036854775807 := Nat.le_trans hm1 (Nat.le_trans hm2 (by unfold maxLen; omega))
  have HR1 := Lib.hid hr1
  have HR2 := Lib.hid hr2
  clear hr1 hr2
  go_enter Tryd.func22, Tryd.ntmps22
  go_wp2
  go_loopw [5] (fun i wr => ∃ k : Nat, i = .int .i64 k ∧ k ≤ l.length ∧ Hid (Below w.heap.size w wr)) (fun i _ => l.length + 1 - (intOf i).toNat)
  case atStart => exact ⟨0, rfl, Nat.zero_le _, Lib.hid (Below.refl _ _)⟩
  case round =>
    obtain ⟨k, rfl, hk, hBr⟩ := hrel
    by_cases hlt : k < l.length
    · obtain ⟨b1, o1, rfl, hb1, hcl1⟩ := HR1.out.at_ (by simp; omega)
      obtain ⟨b2, o2, rfl, hb2, hcl2⟩ := HR2.out.at_ (by simp; omega)
      obtain ⟨x, hx⟩ : ∃ x, l[k]? = some x := ⟨l[k], List.getElem?_eq_getElem (by omega)⟩
      have q1 := (hBr.out.cell (p := ⟨b1, o1 + k, none⟩) hb1).trans (hcl1 k (.string x) (by rw [List.getElem?_map, hx]; rfl))
      have q2 := (hBr.out.cell (p := ⟨b2, o2 + k, none⟩) hb2).trans (hcl2 k (.string x) (by rw [List.getElem?_map, hx]; rfl))
      clear hcl1 hcl2 hx
      have i1 : (k : Int) < (l.length : Int) := by omega
      have i3 : (0 : Int) ≤ (k : Int) := by omega
      go_wp2_with fail
      go_quiet (fail)
      go_wp2_with fail
      go_roundw
      case rel => exact ⟨k + 1, by go_num, by omega, Lib.hid (below_drewN' hBr.out _)⟩
      case measure => simp [intOf]; omega
    · go_wp2_with fail
      go_ret
      exact ⟨rfl, hBr.out⟩

end Go.Proofs.YtkcailgfggbigaaDoor
