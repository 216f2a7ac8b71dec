/-
  The document's offer.
-/
import Derived.Test.YthlajcohbpjgkaaDoorMRd
import Derived.Test.YthlajcohbpjgkaaDoorMTxt
namespace Go.Proofs.YthlajcohbpjgkaaDoor
open Go.RowKit Go.Shelf Go.Proofs.Mem
set_option linter.unusedVariables false

def offM (s : ByteArray) : MsgL := if (takeT s).2.2 ≠ 0 then emptyL else ⟨1, (takeT s).1, s.extract (takeT s).2.1 s.size, [], [], 0⟩
/-- How offer, list end: a message, whether it holds. -/
def PairP (m : MsgL) (b : Bool) (w : World) (e : Ending) (w' : World) : Prop := (∃ v, e = .returned (.tuple #[v, .bool b]) ∧ MsgO w' w.heap.size v m) ∧ Below w.heap.size w w'

theorem res_offer {tmps : Array Value} {W : World} {b : Nat} {k er : Int} {c : Bool} {A1 A2 : Option Addr} {n1 n2 d1 d2 : Nat} {t1 t2 : ByteArray} (h2 : tmps.getD 2 undef = .pointer (some ⟨b, 0, none⟩)) (h3 : tmps.getD 3 undef = .bool c)
    (hM : MB W b #[.int .i64 k, .string t1, .string t2, .slice A1 n1 d1, .slice A2 n2 d2, .int .i64 er]) :
    (results Tryd.f28 tmps).run Tryd.prog W = .ok (.tuple #[.agg #[.int .i64 k, .string t1, .string t2, .slice A1 n1 d1, .slice A2 n2 d2, .int .i64 er], .bool c]) W := by
  have q0 : W.cell? ⟨b, 0, none⟩ = some (.int .i64 k) := hM.cell 0
  have q1 : W.cell? ⟨b, 1, none⟩ = some (.string t1) := hM.cell 1
  have q2 : W.cell? ⟨b, 2, none⟩ = some (.string t2) := hM.cell 2
  have q3 : W.cell? ⟨b, 3, none⟩ = some (.slice A1 n1 d1) := hM.cell 3
  have q4 : W.cell? ⟨b, 4, none⟩ = some (.slice A2 n2 d2) := hM.cell 4
  have q5 : W.cell? ⟨b, 5, none⟩ = some (.int .i64 er) := hM.cell 5
  rw [Array.getD_eq_getD_getElem?] at h2 h3
  simp only [results, Tryd.f28]
  go_simp

set_option maxRecDepth 100000 in
set_option maxHeartbeats 4000000 in
theorem offer_any (s : ByteArray) (w : World) (hz : s.size ≤ 1000000) :
    Calls Tryd.prog 28 #[.string s] w (PairP (offM s) (decide ((takeT s).2.2 = 0)) w) := by
  have HT := Lib.hid (fun W => rtaket_any s W hz)
  have hle := takeT_end s
  have HO : Hid (offM s = if (takeT s).2.2 ≠ 0 then emptyL else ⟨1, (takeT s).1, s.extract (takeT s).2.1 s.size, [], [], 0⟩) := Lib.hid rfl
  obtain ⟨⟨t, n, c⟩, ht⟩ : ∃ t, t = takeT s := ⟨_, rfl⟩
  rw [← ht] at HT hle HO
  rw [← ht]
  clear ht
  dsimp only at HT hle HO ⊢
  have i0 : (0 : Int) ≤ (n : Int) := by omega
  have i1 : (n : Int) ≤ (s.size : Int) := by omega
  cases hc : decide (c = 0) with
  | true =>
    have hc' : c = 0 := of_decide_eq_true hc
    subst hc'
    clear hc
    go_enter Tryd.func28, Tryd.ntmps28
    go_wp2_with (go_at_call 51; refine Calls.mono (HT.out _) ?_; unfold texV; rintro e w2 ⟨rfl, hb2⟩; have HM2 : Hid (MB w2 w.heap.size #[.int .i64 0, .string ⟨#[]⟩, .string ⟨#[]⟩, .slice none 0 0, .slice none 0 0, .int .i64 0]) := Lib.hid (MB.on (heap_alloc_new w _) hb2); have hz2 : w.heap.size < w2.heap.size := HM2.out.lt; have HB2 : Hid (Below w.heap.size w w2) := Lib.hid (bel (by go_grown) hb2); have e20 : w2.cell? ⟨w.heap.size, 0, none⟩ = some (.int .i64 0) := HM2.out.cell 0; have g20 := HM2.out.froz 0; have e21 : w2.cell? ⟨w.heap.size, 1, none⟩ = some (.string ⟨#[]⟩) := HM2.out.cell 1; have g21 := HM2.out.froz 1; have e22 : w2.cell? ⟨w.heap.size, 2, none⟩ = some (.string ⟨#[]⟩) := HM2.out.cell 2; have g22 := HM2.out.froz 2; have e23 : w2.cell? ⟨w.heap.size, 3, none⟩ = some (.slice none 0 0) := HM2.out.cell 3; have g23 := HM2.out.froz 3; have e24 : w2.cell? ⟨w.heap.size, 4, none⟩ = some (.slice none 0 0) := HM2.out.cell 4; have g24 := HM2.out.froz 4; have e25 : w2.cell? ⟨w.heap.size, 5, none⟩ = some (.int .i64 0) := HM2.out.cell 5; have g25 := HM2.out.froz 5; clear hb2)
    refine bodyPost_ret (res_offer rfl rfl (mb6 HM2.out)) rfl ?_
    exact ⟨⟨_, rfl, by rw [HO.out, if_neg (by decide)]; exact MsgO.bare 1 0 _ _⟩, bel6 HB2.out (Nat.le_refl _)⟩
  | false =>
    have hc' : ¬ c = 0 := of_decide_eq_false hc
    have c1 : ((c : Int) == 0) = false := by rw [beq_eq_false_iff_ne]; omega
    have c2 : ¬ (c : Int) = 0 := by omega
    have HC := Lib.hid hc'
    clear hc hc'
    go_enter Tryd.func28, Tryd.ntmps28
    go_wp2_with (go_at_call 51; refine Calls.mono (HT.out _) ?_; unfold texV; rintro e w2 ⟨rfl, hb2⟩; have HM2 : Hid (MB w2 w.heap.size #[.int .i64 0, .string ⟨#[]⟩, .string ⟨#[]⟩, .slice none 0 0, .slice none 0 0, .int .i64 0]) := Lib.hid (MB.on (heap_alloc_new w _) hb2); have hz2 : w.heap.size < w2.heap.size := HM2.out.lt; have HB2 : Hid (Below w.heap.size w w2) := Lib.hid (bel (by go_grown) hb2); have e20 : w2.cell? ⟨w.heap.size, 0, none⟩ = some (.int .i64 0) := HM2.out.cell 0; have g20 := HM2.out.froz 0; have e21 : w2.cell? ⟨w.heap.size, 1, none⟩ = some (.string ⟨#[]⟩) := HM2.out.cell 1; have g21 := HM2.out.froz 1; have e22 : w2.cell? ⟨w.heap.size, 2, none⟩ = some (.string ⟨#[]⟩) := HM2.out.cell 2; have g22 := HM2.out.froz 2; have e23 : w2.cell? ⟨w.heap.size, 3, none⟩ = some (.slice none 0 0) := HM2.out.cell 3; have g23 := HM2.out.froz 3; have e24 : w2.cell? ⟨w.heap.size, 4, none⟩ = some (.slice none 0 0) := HM2.out.cell 4; have g24 := HM2.out.froz 4; have e25 : w2.cell? ⟨w.heap.size, 5, none⟩ = some (.int .i64 0) := HM2.out.cell 5; have g25 := HM2.out.froz 5; clear hb2)
    refine bodyPost_ret (res_offer rfl rfl (mb6 HM2.out)) rfl ?_
    exact ⟨⟨_, rfl, by rw [HO.out, if_pos HC.out]; exact MsgO.bare 0 0 _ _⟩, bel6 HB2.out (Nat.le_refl _)⟩

end Go.Proofs.YthlajcohbpjgkaaDoor
