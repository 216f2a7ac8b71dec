/-
  R.Add.
-/
import Derived.Test.YtingloamfpibaaaBPl
import Derived.Deep.QuietTactic
import Derived.BigQuiet
import Derived.Lib.ConvBytes
import Derived.Laws.IdiomStrings
namespace Go.Proofs.Ytingloamfpibaaa
open Go.RowKit Go.Proofs.Mem
set_option linter.unusedVariables false

/-- A bit is set. -/
def orBit (d : ByteArray) (p : Nat) : ByteArray := ⟨d.data.setIfInBounds (p / 8) (UInt8.ofNat (byteAt d (p / 8) ||| 2 ^ (p % 8)))⟩
theorem orBit_size (d : ByteArray) (p : Nat) : (orBit d p).size = d.size := by
  show (d.data.setIfInBounds (p / 8) _).size = d.data.size
  rw [Array.size_setIfInBounds]
theorem pow_byte (p : Nat) : 2 ^ (p % 8) < 256 := by
  have : 2 ^ (p % 8) ≤ 2 ^ 7 := Nat.pow_le_pow_right (by decide) (by omega)
  omega
theorem or_byte (a p : Nat) (h : a < 256) : a ||| 2 ^ (p % 8) < 256 := Nat.or_lt_two_pow (n := 8) h (pow_byte p)
theorem byteAt_orBit (d : ByteArray) (p j : Nat) (hp : p / 8 < d.size) : byteAt (orBit d p) j = if j = p / 8 then byteAt d (p / 8) ||| 2 ^ (p % 8) else byteAt d j := by
  have hsz := orBit_size d p
  have hb := or_byte (byteAt d (p / 8)) p (byteAt_lt _ _)
  by_cases hj : j < d.size
  · rw [byteAt_eq _ _ (by omega), byteAt_eq _ _ hj]
    show ((d.data.setIfInBounds (p / 8) (UInt8.ofNat (byteAt d (p / 8) ||| 2 ^ (p % 8))))[j]'(by simpa using hj)).toNat = _
    rw [Array.getElem_setIfInBounds]
    split
    · rename_i h
      rw [if_pos h.symm, UInt8.toNat_ofNat']
      omega
    · rename_i h
      rw [if_neg (fun e => h e.symm)]
      rfl
  · have h1 : byteAt (orBit d p) j = 0 := by unfold byteAt; rw [dif_neg (by omega)]
    have h2 : byteAt d j = 0 := by unfold byteAt; rw [dif_neg hj]
    rw [h1, h2, if_neg (by omega)]

def addB (key : ByteArray) (B H : Nat) (d : ByteArray) : ByteArray := (places key B H).foldl orBit d
/-- A text's bytes lie in a block. -/
def Bytes (w : World) (g : Nat) (d : ByteArray) : Prop := ∀ j, j < d.size → w.cell? ⟨g, j, none⟩ = some (.int .u8 (byteAt d j : Nat)) ∧ w.frozen? ⟨g, j, none⟩ = false


theorem Bytes.on {w w' : World} {g : Nat} {d : ByteArray} (h : Bytes w g d) (hb : Below w.heap.size w w') (hg : g < w.heap.size) : Bytes w' g d := fun j hj =>
  ⟨(hb.cell (p := ⟨g, j, none⟩) hg).trans (h j hj).1, (hb.frozen (p := ⟨g, j, none⟩) hg).trans (h j hj).2⟩
theorem Bytes.new (w : World) (e : TypeId) (d : ByteArray) : Bytes (Lib.bytesWorld w e d) w.heap.size d := by
  intro j hj
  refine ⟨?_, ?_⟩
  · rw [Lib.bytesWorld_cell w e d j hj, byteAt_eq d j hj]
    congr 2
    have h1 : j < d.data.toList.length := by simpa using hj
    rw [List.getD_eq_getElem?_getD, List.getElem?_eq_getElem h1]
    rfl
  · unfold World.frozen?
    rw [Lib.bytesWorld_at_new]
    have : d.size ≤ (Lib.bytesCells w e d).size := by
      unfold Lib.bytesCells
      rw [Array.size_append, Array.size_map]
      show d.data.size ≤ _
      omega
    simp
    omega
theorem bytesWorld_below (w : World) (e : TypeId) (d : ByteArray) : Below w.heap.size w (Lib.bytesWorld w e d) :=
  ⟨rfl, rfl, rfl, by rw [Lib.bytesWorld_size]; omega, fun k hk => Lib.bytesWorld_at_old w e d k hk⟩
theorem Bytes.orBit {w : World} {g : Nat} {d : ByteArray} (h : Bytes w g d) (p : Nat) (hp : p / 8 < d.size) : Bytes (w.setCell ⟨g, p / 8, none⟩ (.int .u8 ((byteAt d (p / 8) ||| 2 ^ (p % 8) : Nat) : Int))) g (orBit d p) := by
  intro j hj
  rw [orBit_size] at hj
  obtain ⟨h1, h2⟩ := h j hj
  rw [byteAt_orBit d p j hp]
  by_cases hjp : j = p / 8
  · subst hjp
    rw [if_pos rfl]
    exact ⟨World.cell?_setCell_same' _ _ _ (by rw [h1]; rfl), by go_simp⟩
  · rw [if_neg hjp]
    have hne : p / 8 ≠ j := fun e => hjp e.symm
    exact ⟨by go_simp, by go_simp⟩

end Go.Proofs.Ytingloamfpibaaa
