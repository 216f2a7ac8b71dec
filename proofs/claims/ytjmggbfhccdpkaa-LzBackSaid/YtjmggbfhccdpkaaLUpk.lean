/-
  Unpack, of what Pack wrote; Open, of what Squash wrote.
-/
import Derived.Test.YtjmggbfhccdpkaaLUpt
import Derived.Test.YtjmggbfhccdpkaaLSqs
namespace Go.Proofs.Ytjmggbfhccdpkaa
open Go.RowKit Go.Shelf Go.Proofs.Mem
set_option linter.unusedVariables false

def upkV (s : ByteArray) (m : Nat) : Value := if m < s.size then .tuple #[.string ⟨#[]⟩, .int .i64 4] else .tuple #[.string s, .int .i64 0]
theorem conv_row {w : World} {B : Nat} {v : Value} {out : List UInt8} (h : w.ownsRow B 5 1 v out.length (Lib.byteCells out)) :
    Sem.run Try.prog (convert 26 9 v) w = .ok (.string ⟨out.toArray⟩) w := by
  rcases h.2 with ⟨rfl, h0⟩ | ⟨g, cap, cur, rfl, hrest⟩
  · obtain rfl : out = [] := List.length_eq_zero_iff.1 h0
    first | rfl | go_simp
  · have := run_convert_bytes_back (P := Try.prog) w 26 9 5 ⟨g, 0, none⟩ cap out Try.underlying26 Try.underlying5 Try.underlying9 (fun j hj => by
      have := h.cells (g := g) rfl j (.int .u8 ((out[j]'hj).toNat : Nat)) (by unfold Lib.byteCells; rw [List.getElem?_map, List.getElem?_eq_getElem hj]; rfl)
      exact this)
    exact this
set_option maxHeartbeats 2000000 in
theorem unpack_any (p t : ByteArray) (m : Nat) (w : World) (hU : Unp p.data.toList [] t.data.toList) (hp : p.size ≤ 100000) (ht : t.size ≤ 100000) (hm : m ≤ 100000) :
    Calls Try.prog 11 #[.string p, .int .i64 (m : Nat)] w fun e w' => e = .returned (upkV t m) ∧ Below w.heap.size w w' := by
  have htl : t.data.toList.length = t.size := Array.length_toList
  have HP := Lib.hid (fun W s out h hU hpos hB hs => upart_any W w.heap.size w.heap.size s out t.data.toList h hU hpos (by omega) hB hs)
  have HU0 : Hid (Up (w.alloc (.cells #[.string p, .slice none 0 0] 54)) w.heap.size w.heap.size p []) := Lib.hid ⟨_, Nat.le_refl _, heap_alloc_new w _, World.ownsRow_nil _ _ _ _⟩
  have HB0 : Hid (Below w.heap.size w (w.alloc (.cells #[.string p, .slice none 0 0] 54))) := Lib.hid ((Below.refl w.heap.size w).alloc (Nat.le_refl _) _)
  have HN0 := Lib.hid hU
  have HTL := Lib.hid htl
  have HT := Lib.hid ht
  clear hU htl ht
  go_enter Try.func11, Try.ntmps11
  go_wp2_with fail
  generalize w.alloc (.cells #[.string p, .slice none 0 0] 54) = w0 at *
  go_loopw [7] (fun _ wr => ∃ (s : ByteArray) (out : List UInt8), Hid (Up wr w.heap.size w.heap.size s out) ∧ Hid (Unp s.data.toList out t.data.toList) ∧ s.size ≤ 100000 ∧ Hid (out.length ≤ m) ∧ Hid (Below w.heap.size w wr) ∧ True) (fun _ wr => match wr.cell? ⟨w.heap.size, 0, none⟩ with | some (.string s) => s.size | _ => 0)
  case atStart => exact ⟨p, [], HU0, HN0, hp, Lib.hid (Nat.zero_le _), HB0, trivial⟩
  case round =>
    obtain ⟨s, out, HUs, HNs, hs, HOs, HBs, _⟩ := hrel
    obtain ⟨v, hP⟩ := HUs.out
    obtain ⟨c0, c1, cf, csh⟩ := hP.cells
    obtain ⟨A, c, rfl⟩ := own_len hP.vo
    have HPs := Lib.hid hP
    have hcv := conv_row hP.vo
    clear hP
    by_cases h0 : s.size = 0
    · have hse : s = ⟨#[]⟩ := ByteArray.size_eq_zero_iff.1 h0
      subst hse
      have hout : out = t.data.toList := by
        have hno := HNs.out
        generalize hx : (⟨#[]⟩ : ByteArray).data.toList = x at hno
        cases hno with
        | done => rfl
        | row => cases hx
        | again => cases hx
      have hte : (⟨out.toArray⟩ : ByteArray) = t := by rw [hout]
      have HV : Hid (upkV t m = .tuple #[.string t, .int .i64 0]) := Lib.hid (if_neg (by have := HOs.out; have := HTL.out; rw [hout] at *; omega))
      rw [hte] at hcv
      clear h0 hout hte
      go_wp2_with fail
      go_ret2
      exact ⟨by rw [HV.out]; rfl, HBs.out⟩
    · have hne : (s.toList == (⟨#[]⟩ : ByteArray).toList) = false := by
        rw [beq_eq_false_iff_ne, Lib.toList_data, Lib.toList_data]
        intro e
        have := congrArg List.length e
        rw [Array.length_toList] at this
        exact h0 this
      have hne2 : s.toList = [] ↔ False := by
        rw [Lib.toList_data]
        refine ⟨fun e => ?_, fun h => h.elim⟩
        have := congrArg List.length e
        rw [Array.length_toList] at this
        exact h0 this
      have hne3 : s.toList.isEmpty = false := by
        rw [List.isEmpty_eq_false_iff]
        exact fun e => (hne2.1 e)
      have HS0 := Lib.hid h0
      clear hcv h0
      go_wp2_with (go_at_call 22; refine Calls.mono (HP.out wr s out HUs.out HNs.out (Nat.pos_of_ne_zero HS0.out) HBs.out.size hs) ?_; rintro e w1 ⟨rfl, hb1, s3, o3, hu3, hn3, hz3⟩; obtain ⟨v3, hP3⟩ := hu3; obtain ⟨A3, k3, rfl⟩ := own_len hP3.vo; obtain ⟨d0, d1, df, dsh⟩ := hP3.cells; have HP3 := Lib.hid hP3; have HN3 := Lib.hid hn3; have HZ3 := Lib.hid hz3; have HB3 := Lib.hid (HBs.out.trans hb1); clear hP3 hn3 hz3 hb1)
      case roundEnd =>
        go_roundw
        case rel => exact ⟨s3, o3, Lib.hid ⟨_, HP3.out⟩, HN3, by have := HZ3.out; omega, Lib.hid (by omega), HB3, trivial⟩
        case measure => simp only [d0, c0]; exact HZ3.out
      go_ret2
      have HV : Hid (upkV t m = .tuple #[.string ⟨#[]⟩, .int .i64 4]) := Lib.hid (if_pos (by have := HN3.out.le; have := HTL.out; omega))
      exact ⟨by rw [HV.out]; rfl, HB3.out⟩

end Go.Proofs.Ytjmggbfhccdpkaa
