/-
  The program's Read.
-/
import Derived.Test.YthlajcohbpjgkaaDoorMMs2
import Derived.Test.YthlajcohbpjgkaaDoorMMs4
import Derived.Test.YthlajcohbpjgkaaDoorMAs
namespace Go.Proofs.YthlajcohbpjgkaaDoor
open Go.RowKit Go.Shelf Go.Proofs.Mem
set_option linter.unusedVariables false

theorem mes_any (B rb : Nat) (s : ByteArray) (w : World) (hr : RdAt w rb s) (hB : B ≤ rb) (hBw : B ≤ w.heap.size) (hz : s.size ≤ 1000000) :
    Calls Tryd.prog 25 #[.pointer (some ⟨rb, 0, none⟩)] w (MesP B (readM s) w) := by
  rcases Nat.eq_zero_or_pos s.size with h0 | h0
  · exact mes_0 B rb s w hr hBw h0
  · by_cases h1 : byteAt s 0 = 1
    · exact mes_1 B rb s w hr hB hBw h0 hz h1
    · by_cases h2 : byteAt s 0 = 2
      · exact mes_2 B rb s w hr hB hBw h0 hz h2
      · by_cases h3 : byteAt s 0 = 3
        · exact mes_3 B rb s w hr hB hBw h0 hz h3
        · by_cases h4 : byteAt s 0 = 4
          · exact mes_4 B rb s w hr hB hBw h0 hz h4
          · exact mes_o B rb s w hr hB hBw h0 hz h1 h2 h3 h4

/-- What package errors holds of the type error. -/
def ErrT (w : World) : Prop := w.cell? ⟨0, 0, none⟩ = some (.iface 109 (.agg #[.pointer (some ⟨2, 48, none⟩)])) ∧ 0 < w.heap.size
theorem ErrT.on {w w' : World} (h : ErrT w) (hb : Below w.heap.size w w') : ErrT w' := ⟨(hb.cell (p := ⟨0, 0, none⟩) h.2).trans h.1, Nat.lt_of_lt_of_le h.2 hb.size⟩
def emptyL : MsgL := ⟨0, ⟨#[]⟩, ⟨#[]⟩, [], [], 0⟩
/-- How Read ends. -/
def ReadP (o : Option MsgL) (w : World) (e : Ending) (w' : World) : Prop :=
  (match o with
    | some m => ∃ v, e = .returned (.tuple #[v, .int .i64 0]) ∧ MsgV w' w'.heap.size v m
    | none => ∃ v, e = .returned (.tuple #[v, .int .i64 2]) ∧ MsgV w' w'.heap.size v emptyL) ∧ Below w.heap.size w w'
theorem res_read {tmps : Array Value} {W : World} {b : Nat} {k er c : Int} {A1 A2 : Option Addr} {n1 n2 d1 d2 : Nat} {t1 t2 : ByteArray} (h2 : tmps.getD 2 undef = .pointer (some ⟨b, 0, none⟩)) (h3 : tmps.getD 3 undef = .int .i64 c)
    (hM : MB W b #[.int .i64 k, .string t1, .string t2, .slice A1 n1 d1, .slice A2 n2 d2, .int .i64 er]) :
    (results Tryd.f11 tmps).run Tryd.prog W = .ok (.tuple #[.agg #[.int .i64 k, .string t1, .string t2, .slice A1 n1 d1, .slice A2 n2 d2, .int .i64 er], .int .i64 c]) W := by
  have q0 : W.cell? ⟨b, 0, none⟩ = some (.int .i64 k) := hM.cell 0
  have q1 : W.cell? ⟨b, 1, none⟩ = some (.string t1) := hM.cell 1
  have q2 : W.cell? ⟨b, 2, none⟩ = some (.string t2) := hM.cell 2
  have q3 : W.cell? ⟨b, 3, none⟩ = some (.slice A1 n1 d1) := hM.cell 3
  have q4 : W.cell? ⟨b, 4, none⟩ = some (.slice A2 n2 d2) := hM.cell 4
  have q5 : W.cell? ⟨b, 5, none⟩ = some (.int .i64 er) := hM.cell 5
  rw [Array.getD_eq_getD_getElem?] at h2 h3
  simp only [results, Tryd.f11]
  go_simp

/-- A row that the call owns, behind six stores into a block that lay ahead. -/
theorem own6 {w : World} {B b n size : Nat} {e : TypeId} {v v0 v1 v2 v3 v4 v5 : Value} {xs : List Value} (h : w.ownsRow B e size v n xs) (hb : b < B) :
    (((((((w.setCell ⟨b, 0, none⟩ v0).setCell ⟨b, 1, none⟩ v1).setCell ⟨b, 2, none⟩ v2).setCell ⟨b, 3, none⟩ v3).setCell ⟨b, 4, none⟩ v4).setCell ⟨b, 5, none⟩ v5)).ownsRow B e size v n xs := by
  have hg : w.grownBy (((((((w.setCell ⟨b, 0, none⟩ v0).setCell ⟨b, 1, none⟩ v1).setCell ⟨b, 2, none⟩ v2).setCell ⟨b, 3, none⟩ v3).setCell ⟨b, 4, none⟩ v4).setCell ⟨b, 5, none⟩ v5)) (some b) :=
    grown_tr (grown_tr (grown_tr (grown_tr (grown_tr (set_grown w ⟨b, 0, none⟩ v0) (set_grown _ ⟨b, 1, none⟩ v1)) (set_grown _ ⟨b, 2, none⟩ v2)) (set_grown _ ⟨b, 3, none⟩ v3)) (set_grown _ ⟨b, 4, none⟩ v4)) (set_grown _ ⟨b, 5, none⟩ v5)
  exact h.kept hg (.inr (fun e => by have := (h.lt b e).1; omega))

set_option maxRecDepth 100000 in
set_option maxHeartbeats 4000000 in
theorem mread_any (s : ByteArray) (w : World) (he : ErrT w) (hz : s.size ≤ 1000000) :
    Calls Tryd.prog 11 #[.string s] w (ReadP (readM s) w) := by
  have HME := Lib.hid (fun W (hr : RdAt W (w.heap.size + 1) s) (hW : w.heap.size + 1 ≤ W.heap.size) => mes_any (w.heap.size + 1) (w.heap.size + 1) s W hr (Nat.le_refl _) hW hz)
  have HE := Lib.hid he
  have HR0 : Hid (RdAt ((w.alloc (.cells #[.int .i64 0, .string ⟨#[]⟩, .string ⟨#[]⟩, .slice none 0 0, .slice none 0 0, .int .i64 0] 26)).alloc (.cells #[.string s] 60)) (w.heap.size + 1) s) := Lib.hid (by
    have h := heap_alloc_new (w.alloc (.cells #[.int .i64 0, .string ⟨#[]⟩, .string ⟨#[]⟩, .slice none 0 0, .slice none 0 0, .int .i64 0] 26)) (.cells #[.string s] 60)
    simpa [RdAt] using h)
  cases hrm : readM s with
  | none =>
    rw [hrm] at HME
    clear he hrm
    go_enter Tryd.func11, Tryd.ntmps11
    go_wp2_with (first
      | (go_at_call 25; refine Calls.mono (HME.out _ HR0.out (by simp)) ?_; rintro e w2 ⟨⟨v, c, m, rfl, ⟨kv, ov, rfl, hk, ho⟩⟩, hb2⟩; obtain ⟨A1, n1, d1, rfl⟩ := own_slice hk; obtain ⟨A2, n2, d2, rfl⟩ := own_slice ho; unfold msgA errV; have HB2 : Hid (Below w.heap.size w w2) := Lib.hid ((((Below.refl _ _).alloc (Nat.le_refl _) _).alloc (by simp) _).trans (hb2.mono (Nat.le_succ _))); have hz2 : w.heap.size + 1 < w2.heap.size := (by have := hb2.size; simp at this; omega); have hz2b : w.heap.size < w2.heap.size := (by omega); have HM2 : Hid (MB w2 w.heap.size #[.int .i64 0, .string ⟨#[]⟩, .string ⟨#[]⟩, .slice none 0 0, .slice none 0 0, .int .i64 0]) := Lib.hid ((hb2.block w.heap.size (by omega)).trans ((Lib.alloc_old _ _ _ (by simp)).trans (heap_alloc_new w _))); have HE2 := Lib.hid (HE.out.on HB2.out); have e20 : w2.cell? ⟨w.heap.size, 0, none⟩ = some (.int .i64 0) := HM2.out.cell 0; have e21 : w2.cell? ⟨w.heap.size, 1, none⟩ = some (.string ⟨#[]⟩) := HM2.out.cell 1; have e22 : w2.cell? ⟨w.heap.size, 2, none⟩ = some (.string ⟨#[]⟩) := HM2.out.cell 2; have e23 : w2.cell? ⟨w.heap.size, 3, none⟩ = some (.slice none 0 0) := HM2.out.cell 3; have e24 : w2.cell? ⟨w.heap.size, 4, none⟩ = some (.slice none 0 0) := HM2.out.cell 4; have e25 : w2.cell? ⟨w.heap.size, 5, none⟩ = some (.int .i64 0) := HM2.out.cell 5; have g20 := HM2.out.froz 0; have g21 := HM2.out.froz 1; have g22 := HM2.out.froz 2; have g23 := HM2.out.froz 3; have g24 := HM2.out.froz 4; have g25 := HM2.out.froz 5;  clear hk ho hb2)
      | (go_at_call 26; refine Calls.mono (as_hit (w2.heap.size + 1) c (w2.heap.size + 1) (.int .i64 0) _ ?_ ?_ ?_ (Nat.le_refl _) ?_ ?_) ?_; exact (ErrT.on (ErrT.on HE2.out ((Below.refl _ _).alloc (Nat.le_refl _) _)) ((Below.refl _ _).alloc (Nat.le_refl _) _)).1; go_simp; go_simp; simp; simp; rintro e w3 ⟨rfl, hb3⟩; have HB3 : Hid (Below w.heap.size w w3) := Lib.hid (((HB2.out.alloc HB2.out.size _).alloc (by have := HB2.out.size; simp; omega) _).trans (hb3.mono (by omega))); have HM3 : Hid (MB w3 w.heap.size #[.int .i64 0, .string ⟨#[]⟩, .string ⟨#[]⟩, .slice none 0 0, .slice none 0 0, .int .i64 0]) := Lib.hid ((hb3.block w.heap.size (by omega)).trans ((Lib.alloc_old _ _ _ (by simp; omega)).trans ((Lib.alloc_old _ _ _ (by omega)).trans HM2.out))); have m30 : w3.cell? ⟨w.heap.size, 0, none⟩ = some (.int .i64 0) := HM3.out.cell 0; have n30 := HM3.out.froz 0; have m31 : w3.cell? ⟨w.heap.size, 1, none⟩ = some (.string ⟨#[]⟩) := HM3.out.cell 1; have n31 := HM3.out.froz 1; have m32 : w3.cell? ⟨w.heap.size, 2, none⟩ = some (.string ⟨#[]⟩) := HM3.out.cell 2; have n32 := HM3.out.froz 2; have m33 : w3.cell? ⟨w.heap.size, 3, none⟩ = some (.slice none 0 0) := HM3.out.cell 3; have n33 := HM3.out.froz 3; have m34 : w3.cell? ⟨w.heap.size, 4, none⟩ = some (.slice none 0 0) := HM3.out.cell 4; have n34 := HM3.out.froz 4; have m35 : w3.cell? ⟨w.heap.size, 5, none⟩ = some (.int .i64 0) := HM3.out.cell 5; have n35 := HM3.out.froz 5; clear hb3))
    refine bodyPost_ret (res_read rfl rfl (mb6 HM3.out)) rfl ?_
    exact ⟨⟨_, rfl, ⟨_, _, rfl, Strs.none_, Objs.nil⟩⟩, bel6 HB3.out (Nat.le_refl _)⟩
  | some m =>
    rw [hrm] at HME
    clear he hrm
    go_enter Tryd.func11, Tryd.ntmps11
    go_wp2_with (first
      | (go_at_call 25; refine Calls.mono (HME.out _ HR0.out (by simp)) ?_; rintro e w2 ⟨⟨v, rfl, ⟨kv, ov, rfl, hk, ho⟩⟩, hb2⟩; obtain ⟨A1, n1, d1, rfl⟩ := own_slice hk; obtain ⟨A2, n2, d2, rfl⟩ := own_slice ho; unfold msgA; have HB2 : Hid (Below w.heap.size w w2) := Lib.hid ((((Below.refl _ _).alloc (Nat.le_refl _) _).alloc (by simp) _).trans (hb2.mono (Nat.le_succ _))); have hz2 : w.heap.size + 1 < w2.heap.size := (by have := hb2.size; simp at this; omega); have hz2b : w.heap.size < w2.heap.size := (by omega); have HM2 : Hid (MB w2 w.heap.size #[.int .i64 0, .string ⟨#[]⟩, .string ⟨#[]⟩, .slice none 0 0, .slice none 0 0, .int .i64 0]) := Lib.hid ((hb2.block w.heap.size (by omega)).trans ((Lib.alloc_old _ _ _ (by simp)).trans (heap_alloc_new w _))); have HE2 := Lib.hid (HE.out.on HB2.out); have e20 : w2.cell? ⟨w.heap.size, 0, none⟩ = some (.int .i64 0) := HM2.out.cell 0; have e21 : w2.cell? ⟨w.heap.size, 1, none⟩ = some (.string ⟨#[]⟩) := HM2.out.cell 1; have e22 : w2.cell? ⟨w.heap.size, 2, none⟩ = some (.string ⟨#[]⟩) := HM2.out.cell 2; have e23 : w2.cell? ⟨w.heap.size, 3, none⟩ = some (.slice none 0 0) := HM2.out.cell 3; have e24 : w2.cell? ⟨w.heap.size, 4, none⟩ = some (.slice none 0 0) := HM2.out.cell 4; have e25 : w2.cell? ⟨w.heap.size, 5, none⟩ = some (.int .i64 0) := HM2.out.cell 5; have g20 := HM2.out.froz 0; have g21 := HM2.out.froz 1; have g22 := HM2.out.froz 2; have g23 := HM2.out.froz 3; have g24 := HM2.out.froz 4; have g25 := HM2.out.froz 5;  have HOK := Lib.hid hk; have HOO := Lib.hid ho; clear hk ho hb2)
      | (go_at_call 26; refine Calls.mono (as_nil _ _) ?_; rintro e w3 ⟨rfl, hw3⟩; have HM3 : Hid (MB w3 w.heap.size #[.int .i64 0, .string ⟨#[]⟩, .string ⟨#[]⟩, .slice none 0 0, .slice none 0 0, .int .i64 0]) := Lib.hid (by rw [hw3]; exact (HM2.out.on ((Below.refl _ _).alloc (Nat.le_refl _) _)).on ((Below.refl _ _).alloc (Nat.le_refl _) _)); have HM4 : Hid (MB w3 w2.heap.size #[.int .i64 m.kind, .string m.name, .string m.root, .slice A1 n1 d1, .slice A2 n2 d2, .int .i64 m.err]) := Lib.hid (by rw [hw3]; exact MB.on (heap_alloc_new w2 _) ((Below.refl _ _).alloc (Nat.le_refl _) _)); have HOK3 : Hid (w3.ownsRow (w.heap.size + 1) 9 1 (.slice A1 n1 d1) m.keys.length (m.keys.map .string)) := Lib.hid (by rw [hw3]; exact (HOK.out.alloc _).alloc _); have HOO3 : Hid (w3.ownsRow (w.heap.size + 1) 40 2 (.slice A2 n2 d2) m.objs.length (cellsO m.objs)) := Lib.hid (by rw [hw3]; exact (HOO.out.alloc _).alloc _); have HB3 : Hid (Below w.heap.size w w3) := Lib.hid (by rw [hw3]; exact (HB2.out.alloc HB2.out.size _).alloc (by have := HB2.out.size; simp; omega) _); have hz3 : w.heap.size < w3.heap.size := HM3.out.lt; have hz4 : w2.heap.size < w3.heap.size := HM4.out.lt; have m30 : w3.cell? ⟨w.heap.size, 0, none⟩ = some (.int .i64 0) := HM3.out.cell 0; have n30 := HM3.out.froz 0; have m31 : w3.cell? ⟨w.heap.size, 1, none⟩ = some (.string ⟨#[]⟩) := HM3.out.cell 1; have n31 := HM3.out.froz 1; have m32 : w3.cell? ⟨w.heap.size, 2, none⟩ = some (.string ⟨#[]⟩) := HM3.out.cell 2; have n32 := HM3.out.froz 2; have m33 : w3.cell? ⟨w.heap.size, 3, none⟩ = some (.slice none 0 0) := HM3.out.cell 3; have n33 := HM3.out.froz 3; have m34 : w3.cell? ⟨w.heap.size, 4, none⟩ = some (.slice none 0 0) := HM3.out.cell 4; have n34 := HM3.out.froz 4; have m35 : w3.cell? ⟨w.heap.size, 5, none⟩ = some (.int .i64 0) := HM3.out.cell 5; have n35 := HM3.out.froz 5; have k30 : w3.cell? ⟨w2.heap.size, 0, none⟩ = some (.int .i64 m.kind) := HM4.out.cell 0; have k31 : w3.cell? ⟨w2.heap.size, 1, none⟩ = some (.string m.name) := HM4.out.cell 1; have k32 : w3.cell? ⟨w2.heap.size, 2, none⟩ = some (.string m.root) := HM4.out.cell 2; have k33 : w3.cell? ⟨w2.heap.size, 3, none⟩ = some (.slice A1 n1 d1) := HM4.out.cell 3; have k34 : w3.cell? ⟨w2.heap.size, 4, none⟩ = some (.slice A2 n2 d2) := HM4.out.cell 4; have k35 : w3.cell? ⟨w2.heap.size, 5, none⟩ = some (.int .i64 m.err) := HM4.out.cell 5; clear hw3 e20 e21 e22 e23 e24 e25 g20 g21 g22 g23 g24 g25))
    refine bodyPost_ret (res_read rfl rfl (mb6 HM3.out)) rfl ?_
    exact ⟨⟨_, rfl, ⟨_, _, rfl, strs_of_own (own6 HOK3.out (Nat.lt_succ_self _)), objs_of_own (own6 HOO3.out (Nat.lt_succ_self _))⟩⟩, bel6 HB3.out (Nat.le_refl _)⟩

end Go.Proofs.YthlajcohbpjgkaaDoor
