/-
  A map of texts to places that the call made, looked at as a function; chains of places with the same four bytes.
-/
import Derived.Test.YtjmggbfhccdpkaaLCom
import Derived.Maps.OwnSet
import Derived.Maps.OwnOps
import Derived.StringKeys
namespace Go.Proofs.Ytjmggbfhccdpkaa
open Go.RowKit Go.Shelf Go.Proofs.Mem Go.Maps
set_option linter.unusedVariables false

theorem skey : Keyed Try.prog 9 := string_keyed Try.underlying9
theorem szero (w : World) : (zeroValue 3).run Try.prog w = .ok (.int .i64 0) w := by kernel_rfl
def klit (k : ByteArray) : Lit := .string k.data.toList
theorem klit_key (k : ByteArray) : WideAt.IsKeyLit (klit k) := trivial
theorem klit_inj {k j : ByteArray} (h : klit k = klit j) : k = j := by
  unfold klit at h
  injection h with h
  cases k; cases j
  congr 1
  exact Array.toList_inj.1 h

/-- Block M is a map of at most n entries that reads as f. -/
def Heads (w : World) (M n : Nat) (f : ByteArray → Option Nat) : Prop :=
  ∃ D : DataW Unit, w.ownsMap Try.prog 9 (plainElem Try.prog 3) M n D ∧ ∀ k : ByteArray, has D (klit k) = (f k).isSome ∧ ∀ q, f k = some q → D.atKey (klit k) (.lit (.int .i64 0)) = .lit (.int .i64 (q : Int))

theorem heads_made (w : World) : Heads (w.alloc (.map #[] 0)) w.heap.size 0 (fun _ => none) :=
  ⟨.map [], World.ownsMap_made _ _ _ _, fun k => ⟨rfl, fun q h => by cases h⟩⟩
theorem Heads.lt {w : World} {M n : Nat} {f : ByteArray → Option Nat} (h : Heads w M n f) : M < w.heap.size := by
  obtain ⟨D, h, _⟩ := h
  exact h.lt
theorem Heads.kept {w w' : World} {M n : Nat} {f : ByteArray → Option Nat} {row : Option Nat} (h : Heads w M n f) (hg : w.grownBy w' row) (hne : some M ≠ row) : Heads w' M n f := by
  obtain ⟨D, h, hf⟩ := h
  exact ⟨D, h.kept hg hne, hf⟩
theorem Heads.at_ {w w' : World} {M n : Nat} {f : ByteArray → Option Nat} (h : Heads w M n f) (hh : w'.heap[M]? = w.heap[M]?) : Heads w' M n f := by
  obtain ⟨D, ⟨es, clock, hb, F⟩, hf⟩ := h
  exact ⟨D, ⟨es, clock, hh.trans hb, F⟩, hf⟩
/-- The word of a look-up. -/
def lookV (o : Option Nat) : Value := .tuple #[.int .i64 (o.getD 0 : Nat), .bool o.isSome]
theorem Heads.look {w : World} {M n : Nat} {f : ByteArray → Option Nat} (h : Heads w M n f) (k : ByteArray) (hk : k.size ≤ maxLen) :
    ∃ c : Int, (Instr.lookup 33 (.map (some M)) (.string k) true).run Try.prog w = .ok (.tuple #[.int .i64 c, .bool (f k).isSome]) w ∧ ∀ q, f k = some q → c = (q : Int) := by
  obtain ⟨D, hD, hf⟩ := h
  obtain ⟨v, ps, hrun, hv⟩ := hD.look_ok skey Try.underlying33 (szero w) (plainElem_int Try.underlying3 (by decide)) (WideMaps.keyOf_string_mk Try.underlying9 hk)
  obtain ⟨c, rfl, hc, _⟩ := plainElem_int_inv Try.underlying3 hv
  refine ⟨c, ?_, fun q hq => ?_⟩
  · rw [hrun]
    rw [show has D (Lit.string k.data.toList) = (f k).isSome from (hf k).1]
  · have h1 := (hf k).2 q hq
    simp only [Prod.mk.injEq] at hc
    have h2 := hc.1
    unfold klit at h1
    rw [h1] at h2
    injection h2 with h2
    injection h2 with _ h2
    exact h2.symm
theorem Heads.put {w : World} {M n : Nat} {f : ByteArray → Option Nat} (h : Heads w M n f) (k : ByteArray) (hk : k.size ≤ maxLen) (q : Nat) (hq : q ≤ 1000000) (hn : n ≤ 1000000) :
    ∃ w', (Instr.mapUpdate 33 (.map (some M)) (.string k) (.int .i64 (q : Int))).run Try.prog w = .ok () w' ∧ Heads w' M (n + 1) (fun j => if j = k then some q else f j) ∧ w.grownBy w' (some M) := by
  obtain ⟨D, hD, hf⟩ := h
  obtain ⟨w', hrun, hD', hg⟩ := hD.update skey Try.underlying33 (by unfold maxLen; omega) (WideMaps.keyOf_string_mk Try.underlying9 hk) (plainElem_int Try.underlying3 (a := (q : Int)) (by
    have : (Lit.int .i64 (q : Int)).wf = true := WalkArith.wf_i64 (by omega)
    exact this))
  refine ⟨w', hrun, ⟨_, hD', fun j => ?_⟩, hg⟩
  have hm : IsMap D := hD.isMap
  by_cases e : j = k
  · subst e
    simp only [if_true]
    exact ⟨has_put_same hm (klit_key j) _, fun q' h => by injection h with h; subst h; exact atKey_put_same hm (klit_key j) _ _⟩
  · simp only [if_neg e]
    have hne : klit j ≠ Lit.string k.data.toList := fun h => e (klit_inj h)
    rw [has_put_other hne, atKey_put_other hne]
    exact hf j

/-- The places below n with four bytes k, the nearest first. -/
def fourAt (s : ByteArray) (p : Nat) : ByteArray := s.extract p (p + 4)
def chainL (s : ByteArray) (k : ByteArray) : Nat → List Nat
  | 0 => []
  | q + 1 => if q + 4 ≤ s.size ∧ fourAt s q = k then q :: chainL s k q else chainL s k q
theorem chain_lt {s k : ByteArray} : ∀ {n : Nat}, ∀ q ∈ chainL s k n, q < n ∧ q + 4 ≤ s.size ∧ fourAt s q = k
  | 0, q, h => by cases h
  | n + 1, q, h => by
    unfold chainL at h
    split at h
    · rename_i hc
      rcases List.mem_cons.1 h with rfl | h
      · exact ⟨Nat.lt_succ_self _, hc.1, hc.2⟩
      · have := chain_lt q h; exact ⟨by omega, this.2⟩
    · have := chain_lt q h; exact ⟨by omega, this.2⟩
theorem chain_tail {s k : ByteArray} : ∀ {n q : Nat} {t : List Nat}, chainL s k n = q :: t → t = chainL s k q
  | 0, q, t, h => by cases h
  | n + 1, q, t, h => by
    unfold chainL at h
    split at h
    · injection h with h1 h2
      subst h1
      exact h2.symm
    · exact chain_tail h
/-- What is noted of a place: the nearest ahead with the same four bytes, or -1. -/
def backV (s : ByteArray) (p : Nat) : Int := if p + 4 ≤ s.size then (match (chainL s (fourAt s p) p).head? with | some q => (q : Int) | none => -1) else -1
def backL (s : ByteArray) (n : Nat) : List Value := (List.range n).map fun p => .int .i64 (backV s p)
theorem backL_len (s : ByteArray) (n : Nat) : (backL s n).length = n := by unfold backL; rw [List.length_map, List.length_range]
theorem backL_succ (s : ByteArray) (n : Nat) : backL s (n + 1) = backL s n ++ [.int .i64 (backV s n)] := by
  unfold backL
  rw [List.range_succ, List.map_append]
  rfl
theorem backL_get {s : ByteArray} {n p : Nat} (h : p < n) : (backL s n)[p]? = some (.int .i64 (backV s p)) := by
  unfold backL
  rw [List.getElem?_map, List.getElem?_range h]
  rfl
theorem back_bound (s : ByteArray) (p : Nat) : -1 ≤ backV s p ∧ backV s p < p ∨ backV s p = -1 := by
  unfold backV
  split
  · split
    · rename_i q hq
      have := chain_lt q (List.mem_of_mem_head? hq)
      exact .inl ⟨by omega, by omega⟩
    · exact .inr rfl
  · exact .inr rfl
/-- The heads behind one more place. -/
theorem heads_step (s : ByteArray) (n : Nat) (h : n + 4 ≤ s.size) : (fun k => (chainL s k (n + 1)).head?) = fun k => if k = fourAt s n then some n else (chainL s k n).head? := by
  funext k
  show (if n + 4 ≤ s.size ∧ fourAt s n = k then n :: chainL s k n else chainL s k n).head? = _
  by_cases e : k = fourAt s n
  · rw [if_pos ⟨h, e.symm⟩, if_pos e]; rfl
  · rw [if_neg (fun hh => e hh.2.symm), if_neg e]
theorem heads_stay (s : ByteArray) (n : Nat) (h : ¬ n + 4 ≤ s.size) : (fun k => (chainL s k (n + 1)).head?) = fun k => (chainL s k n).head? := by
  funext k
  show (if n + 4 ≤ s.size ∧ fourAt s n = k then n :: chainL s k n else chainL s k n).head? = _
  rw [if_neg (fun hh => h hh.1)]

/-- What an operation of the finder (the packer) may turn: the bad blocks, and rows of one type. -/
def Oth (E : TypeId) (bad : Nat → Prop) (w w' : World) : Prop := w.heap.size ≤ w'.heap.size ∧ ∀ q, q < w.heap.size → ¬ bad q → (∀ cs fr, w.heap[q]? ≠ some (.cells cs E fr)) → w'.heap[q]? = w.heap[q]?
theorem Oth.refl (E : TypeId) (bad : Nat → Prop) (w : World) : Oth E bad w w := ⟨Nat.le_refl _, fun _ _ _ _ => rfl⟩
theorem Oth.trans {E : TypeId} {bad : Nat → Prop} {w w1 w2 : World} (h : Oth E bad w w1) (k : Oth E bad w1 w2) : Oth E bad w w2 :=
  ⟨Nat.le_trans h.1 k.1, fun q hq hb hc => by
    have e := h.2 q hq hb hc
    exact (k.2 q (Nat.lt_of_lt_of_le hq h.1) hb (fun cs fr => by rw [e]; exact hc cs fr)).trans e⟩
theorem Oth.alloc (E : TypeId) (bad : Nat → Prop) (w : World) (o : Obj) : Oth E bad w (w.alloc o) := ⟨by simp, fun q hq _ _ => Lib.alloc_old w o q hq⟩
theorem Oth.below {E : TypeId} {bad : Nat → Prop} {w w' : World} (h : Below w.heap.size w w') : Oth E bad w w' := ⟨h.size, fun q hq _ _ => h.block q hq⟩
theorem Oth.setCell (E : TypeId) (bad : Nat → Prop) (w : World) (a : Addr) (v : Value) (hb : bad a.block) : Oth E bad w (w.setCell a v) := ⟨by simp, fun q _ hq _ => Below.heap_setCell w a v q (fun e => hq (by rw [e]; exact hb))⟩
theorem Oth.grownBad (E : TypeId) (bad : Nat → Prop) {w w' : World} {row : Option Nat} (hg : w.grownBy w' row) (hb : ∀ r, row = some r → bad r) : Oth E bad w w' := ⟨hg.size, fun q hq hq2 _ => hg.block q hq (fun e => hq2 (hb q e.symm))⟩
theorem own_cells {w : World} {B n size : Nat} {E : TypeId} {v : Value} {xs : List Value} (h : w.ownsRow B E size v n xs) {g : Nat} (hg : v.ownBlock = some g) : ∃ cs fr, w.heap[g]? = some (.cells cs E fr) := by
  rcases h.2 with ⟨rfl, _⟩ | ⟨g', cap, cur, rfl, _, hh, _⟩
  · simp [Value.ownBlock] at hg
  · have : g' = g := by simpa [Value.ownBlock] using hg
    subst this
    exact ⟨_, _, hh⟩
theorem Oth.grownRow {E : TypeId} (bad : Nat → Prop) {B n size : Nat} {v : Value} {xs : List Value} {w w' : World} (hown : w.ownsRow B E size v n xs) (hg : w.grownBy w' v.ownBlock) : Oth E bad w w' :=
  ⟨hg.size, fun q hq _ hc => hg.block q hq (fun e => by
    obtain ⟨cs, fr, h⟩ := own_cells hown e.symm
    exact hc cs fr h)⟩

end Go.Proofs.Ytjmggbfhccdpkaa
