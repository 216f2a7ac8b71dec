/-
  A text as it is, or packed, whichever is shorter: both.
-/
import Derived.Test.YtjmggbfhccdpkaaLRoo
import Derived.Test.YtjmggbfhccdpkaaLRpk
namespace Go.Proofs.Ytjmggbfhccdpkaa
open Go.RowKit Go.Shelf Go.Proofs.Mem Go.Maps
set_option linter.unusedVariables false

theorem squash_any (s : ByteArray) (w : World) (hs : s.size ≤ 20000) :
    Calls Try.prog 9 #[.string s] w fun e w' => e = .returned (.string (squashB s)) ∧ Below w.heap.size w w' := by
  have HPA0 := Lib.hid (pack_any s w hs)
  have hz := packB_room s
  have hcv0 : ∀ W : World, Sem.run Try.prog (convert 26 9 (.slice (some ⟨W.heap.size, 0, none⟩) 1 1)) (W.alloc (.cells #[.int .u8 0] 5)) = .ok (.string ⟨#[0]⟩) (W.alloc (.cells #[.int .u8 0] 5)) := fun W => conv_new W 0 (by omega)
  have hcv1 : ∀ W : World, Sem.run Try.prog (convert 26 9 (.slice (some ⟨W.heap.size, 0, none⟩) 1 1)) (W.alloc (.cells #[.int .u8 1] 5)) = .ok (.string ⟨#[1]⟩) (W.alloc (.cells #[.int .u8 1] 5)) := fun W => conv_new W 1 (by omega)
  have z0 : (9223372036854775807 < 1 + s.size) = False := by simp; omega
  have z1 : (9223372036854775807 < 1 + (packB s).size) = False := by simp; omega
  by_cases hlt : (packB s).size < s.size
  · have HE : Hid (squashB s = ⟨#[1]⟩ ++ packB s) := Lib.hid (if_pos hlt)
    have hi : ((packB s).size : Int) < (s.size : Int) := by omega
    clear hs hz
    go_enter Try.func9, Try.ntmps9
    go_wp2_with (go_at_call 7; refine Calls.mono HPA0.out ?_; rintro e w1 ⟨rfl, hb1⟩; have HB1 := Lib.hid hb1; clear hb1)
    go_ret
    exact ⟨by rw [HE.out]; rfl, HB1.out.alloc HB1.out.size _⟩
  · have HE : Hid (squashB s = ⟨#[0]⟩ ++ s) := Lib.hid (if_neg hlt)
    have hi : ¬ ((packB s).size : Int) < (s.size : Int) := by omega
    clear hs hz
    go_enter Try.func9, Try.ntmps9
    go_wp2_with (go_at_call 7; refine Calls.mono HPA0.out ?_; rintro e w1 ⟨rfl, hb1⟩; have HB1 := Lib.hid hb1; clear hb1)
    go_ret
    exact ⟨by rw [HE.out]; rfl, HB1.out.alloc HB1.out.size _⟩
theorem rsquash_any (s : ByteArray) (w : World) (hs : s.size ≤ 20000) :
    Calls Try.prog 10 #[.string s] w fun e w' => e = .returned (.string (squashB s)) ∧ Below w.heap.size w w' := by
  have HPA0 := Lib.hid (rpack_any s w hs)
  have hz := packB_room s
  have z0 : (9223372036854775807 < 1 + s.size) = False := by simp; omega
  have z1 : (9223372036854775807 < 1 + (packB s).size) = False := by simp; omega
  by_cases hlt : (packB s).size < s.size
  · have HE : Hid (squashB s = ⟨#[1]⟩ ++ packB s) := Lib.hid (if_pos hlt)
    have hi : ((packB s).size : Int) < (s.size : Int) := by omega
    clear hs hz
    go_enter Try.func10, Try.ntmps10
    go_wp2_with (go_at_call 8; refine Calls.mono HPA0.out ?_; rintro e w1 ⟨rfl, hb1⟩; have HB1 := Lib.hid hb1; clear hb1)
    go_ret
    exact ⟨by rw [HE.out]; rfl, HB1.out⟩
  · have HE : Hid (squashB s = ⟨#[0]⟩ ++ s) := Lib.hid (if_neg hlt)
    have hi : ¬ ((packB s).size : Int) < (s.size : Int) := by omega
    clear hs hz
    go_enter Try.func10, Try.ntmps10
    go_wp2_with (go_at_call 8; refine Calls.mono HPA0.out ?_; rintro e w1 ⟨rfl, hb1⟩; have HB1 := Lib.hid hb1; clear hb1)
    go_ret
    exact ⟨by rw [HE.out]; rfl, HB1.out⟩

end Go.Proofs.Ytjmggbfhccdpkaa
