/-
  THE ITERATOR OVER A KEY'S BITS, as a range takes it; what makes it.
-/
import Derived.Test.YtingloamfpibaaaBItr
namespace Go.Proofs.Ytingloamfpibaaa
open Go.RowKit Go.Shelf Go.Proofs.Mem
attribute [local go_sem] Oper.semAt_some
set_option linter.unusedVariables false

def addF (key : ByteArray) (B H : Nat) (d : ByteArray) : ByteArray := if key.size = 32 then addB key B H d else d
theorem marks_stops (Bk Bs e h : Nat) (key : ByteArray) (w : World) (he : e ≤ 10) (hh : h ≤ 8) (hf1 : Bk < w.heap.size) (hf2 : Bs < w.heap.size)
    (hBk : w.cell? ⟨Bk, 0, none⟩ = some (.string key)) (hB0 : w.cell? ⟨Bs, 0, none⟩ = some (.int .i64 ((64 * 2 ^ e : Nat) : Int))) (hB1 : w.cell? ⟨Bs, 1, none⟩ = some (.int .i64 h)) :
    SeqStopsK Fence.wide 8 Try.prog 36 #[.pointer (some ⟨Bk, 0, none⟩), .pointer (some ⟨Bs, 0, none⟩)] (encM (key := key) (B := 64 * 2 ^ e) (H := h)) (CellK Bs) (fun ys => ys = (marksL key (64 * 2 ^ e) h).attach) (fun pre => pre <+: (marksL key (64 * 2 ^ e) h).attach) (marksL key (64 * 2 ^ e) h).length w :=
  fun l J Jx W hB hJ _ hY h0 => marks1_in l Bk Bs e h key he hh J Jx hY W hJ ((hB.cell (p := ⟨Bk, 0, none⟩) hf1).trans hBk) ((hB.cell (p := ⟨Bs, 0, none⟩) hf2).trans hB0) ((hB.cell (p := ⟨Bs, 1, none⟩) hf2).trans hB1) h0

theorem marks_any (B h : Int) (d key : ByteArray) (w : World) :
    Calls Try.prog 29 #[.agg #[.int .i64 B, .int .i64 h, .string d], .string key] w fun e w' => e = .returned (.func (.func 36) #[] #[.pointer (some ⟨w.heap.size + 1, 0, none⟩), .pointer (some ⟨w.heap.size, 0, none⟩)]) ∧
      (w.alloc (.cells #[.int .i64 B, .int .i64 h, .string d] 52)).alloc (.cells #[.string key] 9) = w' := by
  go_enter Try.func29, Try.ntmps29
  go_wp2
  go_ret
  exact ⟨rfl, rfl⟩

/-- A bit is set: a place and a bit. -/
def orM (d : ByteArray) (q : Nat × Nat) : ByteArray := ⟨d.data.setIfInBounds q.1 (UInt8.ofNat (byteAt d q.1 ||| q.2))⟩
theorem orM_orBit (d : ByteArray) (p : Nat) : orM d (p / 8, 2 ^ (p % 8)) = orBit d p := rfl
/-- The bytes behind some of the marks. -/
def orX {key : ByteArray} {B H : Nat} (pre : List (Mark key B H)) (d : ByteArray) : ByteArray := pre.foldl (fun d x => orM d x.1) d
theorem orX_snoc {key : ByteArray} {B H : Nat} (pre : List (Mark key B H)) (x : Mark key B H) (d : ByteArray) : orX (pre ++ [x]) d = orM (orX pre d) x.1 := by
  unfold orX; rw [List.foldl_append]; rfl
theorem orX_all (key : ByteArray) (B H : Nat) (d : ByteArray) : orX (marksL key B H).attach d = addF key B H d := by
  unfold orX
  rw [List.foldl_attach (l := marksL key B H) (f := fun d q => orM d q) (b := d)]
  unfold marksL addF addB
  split
  · rw [List.foldl_map]; rfl
  · rfl
theorem orM_size (d : ByteArray) (q : Nat × Nat) : (orM d q).size = d.size := by
  show (d.data.setIfInBounds q.1 _).size = d.data.size
  rw [Array.size_setIfInBounds]
theorem orX_size {key : ByteArray} {B H : Nat} (pre : List (Mark key B H)) (d : ByteArray) : (orX pre d).size = d.size := by
  unfold orX
  induction pre generalizing d with
  | nil => rfl
  | cons x l ih => rw [List.foldl_cons, ih, orM_size]
/-- What a mark is. -/
theorem mark_is {key : ByteArray} {B H : Nat} (hB : 0 < B) (x : Mark key B H) : ∃ p, p < B ∧ x.1.1 = p / 8 ∧ x.1.2 = 2 ^ (p % 8) := by
  obtain ⟨q, hq⟩ := x
  unfold marksL at hq
  split at hq
  · obtain ⟨p, hp, rfl⟩ := List.mem_map.1 hq
    unfold places at hp
    obtain ⟨k, _, rfl⟩ := List.mem_map.1 hp
    exact ⟨_, Nat.mod_lt _ hB, rfl, rfl⟩
  · cases hq
theorem Bytes.orM {w : World} {g : Nat} {d : ByteArray} (h : Bytes w g d) (i b : Nat) (hp : i < d.size) (hb : b < 256) : Bytes (w.setCell ⟨g, i, none⟩ (.int .u8 ((byteAt d i ||| b : Nat) : Int))) g (orM d (i, b)) := by
  intro j hj
  rw [orM_size] at hj
  obtain ⟨h1, h2⟩ := h j hj
  have hor : byteAt d i ||| b < 256 := Nat.or_lt_two_pow (n := 8) (byteAt_lt _ _) hb
  have hba : byteAt (Go.Proofs.Ytingloamfpibaaa.orM d (i, b)) j = if j = i then byteAt d i ||| b else byteAt d j := by
    rw [byteAt_eq _ _ (by rw [orM_size]; exact hj)]
    show ((d.data.setIfInBounds i (UInt8.ofNat (byteAt d i ||| b)))[j]'(by simpa using hj)).toNat = _
    rw [Array.getElem_setIfInBounds]
    split
    · rename_i h
      rw [if_pos h.symm, UInt8.toNat_ofNat']
      omega
    · rename_i h
      rw [if_neg (fun e => h e.symm), byteAt_eq d j hj]
      rfl
  rw [hba]
  by_cases hjp : j = i
  · subst hjp
    rw [if_pos rfl]
    exact ⟨World.cell?_setCell_same' _ _ _ (by rw [h1]; rfl), by go_simp⟩
  · rw [if_neg hjp]
    have hne : i ≠ j := fun e => hjp e.symm
    exact ⟨by go_simp, by go_simp⟩

end Go.Proofs.Ytingloamfpibaaa
