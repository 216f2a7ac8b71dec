/-
  Without choices all comes, in order: what the frames to a side are behind so many posts, and pulls.
-/
import Derived.Test.YtgllojpeggmleaaAwk
import Derived.Test.YtgllojpeggmleaaFew
namespace Go.Proofs.Ytgllojpeggmleaa
open Go.RowKit Go.Proofs.Mem

theorem way_nil : wayOf ⟨#[]⟩ = 1 := by decide
theorem rest_nil : restOf ⟨#[]⟩ = ⟨#[]⟩ := by decide
theorem postD_nil (l fair : Int) (ss : List ByteArray) (raw : ByteArray) (h : ss.length < 60) : postD ⟨#[]⟩ l fair ss raw = ss ++ [raw] := by
  unfold postD
  rw [way_nil, if_neg (by omega), if_neg (by omega), if_neg (by omega)]
  unfold last60
  rw [show (ss ++ [raw]).length - 60 = 0 by simp; omega, List.drop_zero]
theorem postL_nil (l fair : Int) : postL ⟨#[]⟩ l fair = 0 := by
  unfold postL
  rw [way_nil, if_neg (by omega)]

/-- A post without choices at a sky of which nothing was lost. -/
def skyP (D0 D1 : Value) (fair : Int) : Value :=
  .agg #[D0, D1, .string ⟨#[]⟩, .int .i64 0, .int .i64 0, .int .i64 0, .int .i64 0, .int .i64 0, .int .i64 0, .int .i64 0, .int .i64 0, .int .i64 fair]
theorem skyP_eq (D : Nat → Value) (fair : Int) : skyV D ⟨#[]⟩ (fun _ => 0) fair = skyP (D 0) (D 1) fair := rfl
theorem upd_zero (k : Nat) : upd (fun _ => (0 : Int)) k 0 = fun _ => 0 := by funext j; unfold upd; split <;> rfl

theorem plain_0 (at_ : Nat) (hat : at_ < 4) (D0 D1 : Value) (ss : List ByteArray) (raw : ByteArray) (w : World) (hr : raw.size ≤ 65536)
    (hS : Strs w w.heap.size D0 ss) (hO : ∃ A n c, D1 = .slice A n c) (hl : ss.length < 60) :
    Calls Try.prog 10 #[skyP D0 D1 3, .int .i64 0, .int .i64 at_, .string raw] w (PostX w D0 (fun V => skyP V D1 3) (ss ++ [raw])) := by
  have h := post_any 0 at_ (by omega) hat (fun i => if i = 0 then D0 else D1) ss ⟨#[]⟩ raw (fun _ => 0) 3 w hr (Nat.zero_le _) hS hO (by omega) (by omega) (by omega)
  rw [postL_nil, postD_nil _ _ _ _ hl, rest_nil, upd_zero] at h
  exact h
theorem plain_1 (at_ : Nat) (hat : at_ < 4) (D0 D1 : Value) (ss : List ByteArray) (raw : ByteArray) (w : World) (hr : raw.size ≤ 65536)
    (hS : Strs w w.heap.size D1 ss) (hO : ∃ A n c, D0 = .slice A n c) (hl : ss.length < 60) :
    Calls Try.prog 10 #[skyP D0 D1 3, .int .i64 1, .int .i64 at_, .string raw] w (PostX w D1 (fun V => skyP D0 V 3) (ss ++ [raw])) := by
  have h := post_any 1 at_ (by omega) hat (fun i => if i = 0 then D0 else D1) ss ⟨#[]⟩ raw (fun _ => 0) 3 w hr (Nat.zero_le _) hS hO (by omega) (by omega) (by omega)
  rw [postL_nil, postD_nil _ _ _ _ hl, rest_nil, upd_zero] at h
  exact h

end Go.Proofs.Ytgllojpeggmleaa
