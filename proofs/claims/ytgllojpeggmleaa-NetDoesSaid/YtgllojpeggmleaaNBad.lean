/-
  Post and Pull where nothing is sent or taken: both packages.
-/
import Derived.Test.YtgllojpeggmleaaRSide
namespace Go.Proofs.Ytgllojpeggmleaa
open Go.RowKit Go.Proofs.Mem
set_option linter.unusedVariables false

def Stays (w : World) (v : Value) (e : Ending) (w' : World) : Prop := e = .returned v ∧ Below w.heap.size w w'
def sl (v : Value) : Prop := ∃ A n c, v = .slice A n c


theorem npull_bad (D : Nat → Value) (ch : ByteArray) (L : Nat → Int) (fair to : Int) (w : World) (h0 : sl (D 0)) (h1 : sl (D 1)) (hto : to < 0 ∨ 1 < to) :
    Calls Try.prog 11 #[skyV D ch L fair, .int .i64 to] w (Stays w (.tuple #[skyV D ch L fair, .string ⟨#[]⟩, .bool false])) := by
  obtain ⟨A0, n0, c0, e0⟩ := h0
  obtain ⟨A1, n1, c1, e1⟩ := h1
  unfold skyV
  rw [e0, e1]
  go_enter Try.func11, Try.ntmps11
  go_wp2_with fail
  refine bodyPost_ret (by simp [results, Try.results11, go_sem]; try rfl) rfl ?_
  exact ⟨rfl, by go_grown⟩
theorem rpull_bad (D : Nat → Value) (ch : ByteArray) (L : Nat → Int) (fair to : Int) (w : World) (h0 : sl (D 0)) (h1 : sl (D 1)) (hto : to < 0 ∨ 1 < to) :
    Calls Try.prog 15 #[skyV D ch L fair, .int .i64 to] w (Stays w (.tuple #[skyV D ch L fair, .string ⟨#[]⟩, .bool false])) := by
  obtain ⟨A0, n0, c0, e0⟩ := h0
  obtain ⟨A1, n1, c1, e1⟩ := h1
  unfold skyV
  rw [e0, e1]
  have hd : decide (to = 0 ∨ to = 1) = false := decide_eq_false (by omega)
  have HD := Lib.hid hd
  clear hd
  go_enter Try.func15, Try.ntmps15
  go_wp2_with (go_at_call 24; refine Calls.mono (side_any _ _) ?_; rintro e w' ⟨rfl, rfl⟩; rw [HD.out])
  refine bodyPost_ret (by simp [results, Try.results15, go_sem]; try rfl) rfl ?_
  exact ⟨rfl, by go_grown⟩
theorem npost_bad (D : Nat → Value) (ch raw : ByteArray) (L : Nat → Int) (fair to at_ : Int) (w : World) (h0 : sl (D 0)) (h1 : sl (D 1)) (hr : raw.size ≤ 9223372036854775807) (hb : to < 0 ∨ 1 < to ∨ at_ < 0 ∨ 3 < at_ ∨ 65536 < raw.size) :
    Calls Try.prog 10 #[skyV D ch L fair, .int .i64 to, .int .i64 at_, .string raw] w (Stays w (skyV D ch L fair)) := by
  obtain ⟨A0, n0, c0, e0⟩ := h0
  obtain ⟨A1, n1, c1, e1⟩ := h1
  unfold skyV
  rw [e0, e1]
  go_enter Try.func10, Try.ntmps10
  go_wp2_with fail
  all_goals
    refine bodyPost_ret (by simp [results, Try.results10, go_sem]; try rfl) rfl ?_
    exact ⟨rfl, by go_grown⟩
theorem rpost_bad (D : Nat → Value) (ch raw : ByteArray) (L : Nat → Int) (fair to at_ : Int) (w : World) (h0 : sl (D 0)) (h1 : sl (D 1)) (hr : raw.size ≤ 9223372036854775807) (hb : to < 0 ∨ 1 < to ∨ at_ < 0 ∨ 3 < at_ ∨ 65536 < raw.size) :
    Calls Try.prog 16 #[skyV D ch L fair, .int .i64 to, .int .i64 at_, .string raw] w (Stays w (skyV D ch L fair)) := by
  obtain ⟨A0, n0, c0, e0⟩ := h0
  obtain ⟨A1, n1, c1, e1⟩ := h1
  unfold skyV
  rw [e0, e1]
  obtain ⟨b, hd⟩ : ∃ b, b = decide (to = 0 ∨ to = 1) := ⟨_, rfl⟩
  have HD := Lib.hid hd
  cases b with
  | false =>
    clear hd
    go_enter Try.func16, Try.ntmps16
    go_wp2_with (go_at_call 24; refine Calls.mono (side_any _ _) ?_; rintro e w' ⟨rfl, rfl⟩; rw [← HD.out])
    all_goals
      refine bodyPost_ret (by simp [results, Try.results16, go_sem]; try rfl) rfl ?_
      exact ⟨rfl, by go_grown⟩
  | true =>
    have hb2 : at_ < 0 ∨ 3 < at_ ∨ 65536 < raw.size := by have := of_decide_eq_true hd.symm; omega
    clear hd hb
    go_enter Try.func16, Try.ntmps16
    go_wp2_with (go_at_call 24; refine Calls.mono (side_any _ _) ?_; rintro e w' ⟨rfl, rfl⟩; rw [← HD.out])
    all_goals
      refine bodyPost_ret (by simp [results, Try.results16, go_sem]; try rfl) rfl ?_
      exact ⟨rfl, by go_grown⟩

end Go.Proofs.Ytgllojpeggmleaa
