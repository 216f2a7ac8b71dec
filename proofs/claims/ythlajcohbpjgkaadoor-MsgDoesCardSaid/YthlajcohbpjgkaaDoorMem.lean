/-
  WORDS FOR MEMORY: a slice whose elements take one cell each reads as a list; it goes on reading so wherever the blocks below a number have not changed.
-/
import Derived.Test.YthlajcohbpjgkaaDoorRows
import Derived.WalkKit
import Derived.WalkSpells
import Derived.WalkLawsBesides
import Derived.Lib.Hide
import Derived.Handy
import Derived.Below
namespace Go.Proofs.Mem
open Go.RowKit

/-- The cells at an address (A: none, or where) are xs; they lie below block B. -/
def Row (w : World) (B : Nat) (A : Option Addr) (xs : List Value) : Prop :=
  xs = [] ∨ ∃ b off, A = some ⟨b, off, none⟩ ∧ b < B ∧ ∀ j v, xs[j]? = some v → w.cell? ⟨b, off + j, none⟩ = some v

theorem Row.nil {w : World} {B : Nat} {A : Option Addr} : Row w B A [] := .inl rfl
theorem Row.keep {w w' : World} {B : Nat} {A : Option Addr} {xs : List Value} (h : Row w B A xs) (hk : ∀ p : Addr, p.block < B → w'.cell? p = w.cell? p) : Row w' B A xs := by
  rcases h with h | ⟨b, off, e, hb, hc⟩
  · exact .inl h
  · exact .inr ⟨b, off, e, hb, fun j v hj => (hk ⟨b, off + j, none⟩ hb).trans (hc j v hj)⟩
theorem Row.below {w w' : World} {B : Nat} {A : Option Addr} {xs : List Value} (h : Row w B A xs) (hb : Below B w w') : Row w' B A xs := h.keep fun _ hp => hb.cell hp
theorem Row.more {w : World} {B B' : Nat} {A : Option Addr} {xs : List Value} (h : Row w B A xs) (hB : B ≤ B') : Row w B' A xs := by
  rcases h with h | ⟨b, off, e, hb, hc⟩
  · exact .inl h
  · exact .inr ⟨b, off, e, by omega, hc⟩
theorem Row.at_ {w : World} {B : Nat} {A : Option Addr} {xs : List Value} (h : Row w B A xs) (hx : 0 < xs.length) :
    ∃ b off, A = some ⟨b, off, none⟩ ∧ b < B ∧ ∀ j v, xs[j]? = some v → w.cell? ⟨b, off + j, none⟩ = some v := by
  rcases h with h | h
  · subst h; simp at hx
  · exact h

/-- A slice of strings. -/
def Strs (w : World) (B : Nat) (v : Value) (ss : List ByteArray) : Prop :=
  ∃ A c, v = .slice A ss.length c ∧ ss.length ≤ c ∧ c ≤ maxLen ∧ Row w B A (ss.map .string)
theorem Strs.below {w w' : World} {B : Nat} {v : Value} {ss : List ByteArray} (h : Strs w B v ss) (hb : Below B w w') : Strs w' B v ss := by
  obtain ⟨A, c, h1, h2, h3, h4⟩ := h
  exact ⟨A, c, h1, h2, h3, h4.below hb⟩
theorem Strs.more {w : World} {B B' : Nat} {v : Value} {ss : List ByteArray} (h : Strs w B v ss) (hB : B ≤ B') : Strs w B' v ss := by
  obtain ⟨A, c, h1, h2, h3, h4⟩ := h
  exact ⟨A, c, h1, h2, h3, h4.more hB⟩
theorem Strs.on {w w' : World} {v : Value} {ss : List ByteArray} (h : Strs w w.heap.size v ss) (hb : Below w.heap.size w w') : Strs w' w'.heap.size v ss := (h.below hb).more hb.size
theorem Strs.none_ {w : World} {B : Nat} : Strs w B (.slice none 0 0) [] := ⟨none, 0, rfl, Nat.le_refl _, by unfold maxLen; omega, Row.nil⟩

theorem Strs.alloc {w : World} {v : Value} {ss : List ByteArray} (h : Strs w w.heap.size v ss) (o : Obj) : Strs (w.alloc o) (w.alloc o).heap.size v ss := h.on ((Below.refl _ _).alloc (Nat.le_refl _) _)
theorem Strs.drew {w : World} {v : Value} {ss : List ByteArray} (h : Strs w w.heap.size v ss) : Strs w.drew w.drew.heap.size v ss := h.on (Below.refl _ _).drew
/-- A block that has just been laid: so many cells at its head. -/
theorem Row.new (w : World) (xs : Array Value) (e : TypeId) : Row (w.alloc (.cells xs e)) (w.heap.size + 1) (some ⟨w.heap.size, 0, none⟩) xs.toList := by
  refine .inr ⟨w.heap.size, 0, rfl, by omega, fun j v hj => ?_⟩
  have hh : (w.alloc (.cells xs e)).heap[w.heap.size]? = some (.cells xs e) := heap_alloc_new w _
  rw [Nat.zero_add, cell_of_row _ _ j xs e (0, 0) hh]
  simpa using hj
theorem Strs.new (w : World) (ss : List ByteArray) (e : TypeId) (n : Nat) (xs : Array Value) (hx : xs = (ss.map Value.string).toArray) (hn : n = ss.length) (hm : n ≤ maxLen) :
    Strs (w.alloc (.cells xs e)) (w.alloc (.cells xs e)).heap.size (.slice (some ⟨w.heap.size, 0, none⟩) n n) ss := by
  subst hn
  subst hx
  exact ⟨_, _, rfl, Nat.le_refl _, hm, by simpa using Row.new w (ss.map Value.string).toArray e⟩

theorem Strs.new' (w : World) (ss : List ByteArray) (e : TypeId) (n : Nat) (xs : Array Value) (g : Nat) (hx : xs = (ss.map Value.string).toArray) (hn : n = ss.length) (hm : n ≤ maxLen) (hg : g = w.heap.size) :
    Strs (w.alloc (.cells xs e)) (w.alloc (.cells xs e)).heap.size (.slice (some ⟨g, 0, none⟩) n n) ss := by
  subst hg; exact Strs.new w ss e n xs hx hn hm

theorem bel {w w1 w2 : World} (h1 : Below w.heap.size w w1) (h2 : Below w1.heap.size w1 w2) : Below w.heap.size w w2 := h1.trans (h2.mono h1.size)

end Go.Proofs.Mem
