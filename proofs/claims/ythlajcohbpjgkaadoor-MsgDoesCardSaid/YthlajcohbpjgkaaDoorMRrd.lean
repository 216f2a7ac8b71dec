/-
  The document's Read. (Printed by genrrd.py.)
-/
import Derived.Test.YthlajcohbpjgkaaDoorMRrL
import Derived.Test.YthlajcohbpjgkaaDoorMRWr
import Derived.Test.YthlajcohbpjgkaaDoorMFir
namespace Go.Proofs.YthlajcohbpjgkaaDoor
open Go.RowKit Go.Shelf Go.Proofs.Mem
set_option linter.unusedVariables false

theorem res_rread {tmps : Array Value} {W : World} {b : Nat} {k er c : Int} {A1 A2 : Option Addr} {n1 n2 d1 d2 : Nat} {t1 t2 : ByteArray} (h2 : tmps.getD 2 undef = .pointer (some ⟨b, 0, none⟩)) (h3 : tmps.getD 3 undef = .int .i64 c)
    (hM : MB W b #[.int .i64 k, .string t1, .string t2, .slice A1 n1 d1, .slice A2 n2 d2, .int .i64 er]) :
    (results Tryd.f13 tmps).run Tryd.prog W = .ok (.tuple #[.agg #[.int .i64 k, .string t1, .string t2, .slice A1 n1 d1, .slice A2 n2 d2, .int .i64 er], .int .i64 c]) W := by
  have q0 : W.cell? ⟨b, 0, none⟩ = some (.int .i64 k) := hM.cell 0
  have q1 : W.cell? ⟨b, 1, none⟩ = some (.string t1) := hM.cell 1
  have q2 : W.cell? ⟨b, 2, none⟩ = some (.string t2) := hM.cell 2
  have q3 : W.cell? ⟨b, 3, none⟩ = some (.slice A1 n1 d1) := hM.cell 3
  have q4 : W.cell? ⟨b, 4, none⟩ = some (.slice A2 n2 d2) := hM.cell 4
  have q5 : W.cell? ⟨b, 5, none⟩ = some (.int .i64 er) := hM.cell 5
  rw [Array.getD_eq_getD_getElem?] at h2 h3
  simp only [results, Tryd.f13]
  go_simp

set_option maxRecDepth 100000 in
set_option maxHeartbeats 4000000 in
theorem rread_0 (s : ByteArray) (w : World) (hs : s.size = 0) :
    Calls Tryd.prog 13 #[.string s] w (ReadP (readM s) w) := by
  have HN : Hid (readM s = none) := Lib.hid (by unfold readM; rw [if_pos hs])
  have e0 : s.toList.isEmpty = true := by rw [List.isEmpty_iff, str_nil]; exact hs
  have HM0 : Hid (MB (w.alloc (.cells #[.int .i64 0, .string ⟨#[]⟩, .string ⟨#[]⟩, .slice none 0 0, .slice none 0 0, .int .i64 0] 26)) w.heap.size #[.int .i64 0, .string ⟨#[]⟩, .string ⟨#[]⟩, .slice none 0 0, .slice none 0 0, .int .i64 0]) := Lib.hid (heap_alloc_new w _)
  have HB0 : Hid (Below w.heap.size w (w.alloc (.cells #[.int .i64 0, .string ⟨#[]⟩, .string ⟨#[]⟩, .slice none 0 0, .slice none 0 0, .int .i64 0] 26))) := Lib.hid ((Below.refl _ _).alloc (Nat.le_refl _) _)
  clear hs
  go_enter Tryd.func13, Tryd.ntmps13
  go_wp2_with fail
  refine bodyPost_ret (res_rread rfl rfl HM0.out) rfl ?_
  exact ⟨by rw [HN.out]; exact ⟨_, rfl, MsgV.bare 0 0 _ _⟩, HB0.out⟩

end Go.Proofs.YthlajcohbpjgkaaDoor
