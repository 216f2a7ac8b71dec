/-
  A sky as a value, what the outside chooses, and net.choose.
-/
import Derived.Test.YtgllojpeggmleaaCat
import Derived.Lib.Strings
namespace Go.Proofs.Ytgllojpeggmleaa
open Go.RowKit Go.Proofs.Mem

def wayOf (ch : ByteArray) : Nat := if h : 0 < ch.size then ch[0].toNat % 4 else 1
def restOf (ch : ByteArray) : ByteArray := if 0 < ch.size then ch.extract 1 ch.size else ch

theorem and3 (x : UInt8) : bits .and .u8 (x.toNat : Int) 3 = ((x.toNat % 4 : Nat) : Int) := by
  have h : ∀ y : Fin 256, bits .and .u8 (y.val : Int) 3 = ((y.val % 4 : Nat) : Int) := by decide +kernel
  exact h ⟨x.toNat, x.toNat_lt⟩

theorem setCell_self (w : World) (b o : Nat) (v : Value) (h : w.cell? ⟨b, o, none⟩ = some v) : w.setCell ⟨b, o, none⟩ v = w := by
  have hb : ∃ c e m, w.heap[b]? = some (.cells c e m) ∧ c[o]? = some v := by
    unfold World.cell? at h
    revert h
    cases hh : w.heap[b]? with
    | none => intro h; simp at h
    | some x =>
      cases x with
      | cells c e m => intro h; exact ⟨c, e, m, rfl, by simpa using h⟩
      | _ => intro h; simp at h
  obtain ⟨c, e, m, hc, hv⟩ := hb
  have hs : c.setIfInBounds o v = c := by
    apply Array.ext
    · simp
    · intro j hj1 hj2
      rw [Array.getElem_setIfInBounds]
      split
      · rename_i hj; subst hj; rw [Array.getElem?_eq_getElem hj2] at hv; injection hv with hv; exact hv.symm
      · rfl
  obtain ⟨heap, tape, drawn, os, output⟩ := w
  unfold World.setCell
  congr 1
  apply Array.ext
  · simp
  · intro i h1 h2
    rw [Array.getElem_modify]
    split
    · rename_i hi
      have hi' : b = i := hi
      subst hi'
      have : heap[b] = .cells c e m := by
        have := hc
        rw [Array.getElem?_eq_getElem h2] at this; injection this
      rw [this]
      simp [hs]
    · rfl

theorem toList_pos (s : ByteArray) (h : 0 < s.size) : s.toList.isEmpty = false := by
  rw [Lib.toList_data]
  have : s.data.toList.length = s.size := by simp
  cases hl : s.data.toList with
  | nil => rw [hl] at this; simp at this; omega
  | cons x l => rfl

theorem choose_any (b : Nat) (ch : ByteArray) (w : World) (hs : ch.size ≤ 9223372036854775807) (hc : w.cell? ⟨b, 2, none⟩ = some (.string ch)) (hf : w.frozen? ⟨b, 2, none⟩ = false) :
    Calls Try.prog 17 #[.pointer (some ⟨b, 0, none⟩)] w fun e w' => e = .returned (.int .u8 (wayOf ch : Nat)) ∧ w.setCell ⟨b, 2, none⟩ (.string (restOf ch)) = w' := by
  by_cases h0 : 0 < ch.size
  · have hne := toList_pos ch h0
    have hw : wayOf ch = ch[0].toNat % 4 := by unfold wayOf; rw [dif_pos h0]
    have hr : restOf ch = ch.extract 1 ch.size := by unfold restOf; rw [if_pos h0]
    rw [hw, hr]
    clear hw hr
    have ha := and3 ch[0]
    go_enter Try.func17, Try.ntmps17
    go_wp2
    go_ret
    exact ⟨rfl, rfl⟩
  · have hw : wayOf ch = 1 := by unfold wayOf; rw [dif_neg h0]
    have hr : restOf ch = ch := by unfold restOf; rw [if_neg h0]
    have hS := Lib.hid (setCell_self w b 2 (.string ch) hc)
    rw [hw, hr]
    clear hw hr
    obtain rfl : ch = ⟨#[]⟩ := by
      have hz : ch.data.size = 0 := by have : ch.data.size = ch.size := rfl; omega
      obtain ⟨d⟩ := ch
      have hd : d = #[] := Array.eq_empty_of_size_eq_zero hz
      rw [hd]
    go_enter Try.func17, Try.ntmps17
    go_wp2
    go_ret
    exact ⟨rfl, hS.out⟩

theorem bcell {W w1 : World} (hb : Below W.heap.size W w1) : (∀ b o, b < W.heap.size → w1.cell? ⟨b, o, none⟩ = W.cell? ⟨b, o, none⟩) ∧ (∀ b o, b < W.heap.size → w1.frozen? ⟨b, o, none⟩ = W.frozen? ⟨b, o, none⟩) :=
  ⟨fun b o h => hb.cell (p := ⟨b, o, none⟩) h, fun b o h => hb.frozen (p := ⟨b, o, none⟩) h⟩


/-- The last 60. -/
def last60 (l : List ByteArray) : List ByteArray := l.drop (l.length - 60)
def upd {α : Type} (f : Nat → α) (k : Nat) (x : α) : Nat → α := fun j => if j = k then x else f j
/-- A sky as a value: the frames to each side, the choices, how many were lost, how fair. -/
def skyV (D : Nat → Value) (ch : ByteArray) (L : Nat → Int) (fair : Int) : Value :=
  .agg #[D 0, D 1, .string ch, .int .i64 (L 0), .int .i64 (L 1), .int .i64 (L 2), .int .i64 (L 3), .int .i64 (L 4), .int .i64 (L 5), .int .i64 (L 6), .int .i64 (L 7), .int .i64 fair]
/-- What comes out: the slice V in its place; it lies in new memory, or where the old one lay. -/
def PostX (w : World) (old : Value) (out : Value → Value) (ss : List ByteArray) (e : Ending) (w' : World) : Prop :=
  ∃ V, e = .returned (out V) ∧ Strs w' w'.heap.size V ss ∧ (∀ p, p < w.heap.size → V.ownBlock = some p → old.ownBlock = some p) ∧ Below w.heap.size w w'

/-- A store into another block than the slice's. -/
theorem Strs.set_ {w : World} {B : Nat} {v : Value} {ss : List ByteArray} (h : Strs w B v ss) {p : Addr} (hp : v.ownBlock ≠ some p.block) (u : Value) : Strs (w.setCell p u) B v ss := by
  obtain ⟨A, c', rfl, h1, h2, h3⟩ := h
  refine ⟨_, _, rfl, h1, h2, ?_⟩
  rcases h3 with h3 | ⟨b', off', rfl, hb, hc⟩
  · exact .inl h3
  · refine .inr ⟨b', off', rfl, hb, fun j v hj => ?_⟩
    rw [World.cell?_setCell_other _ _ _ _ (by intro h; subst h; exact hp rfl)]
    exact hc j v hj

/-- A cut of a slice of strings. -/
theorem strs_cut {w : World} {B : Nat} {A : Option Addr} {c k n : Nat} {ss : List ByteArray} (hn : n = ss.length) (hk : k ≤ n) (hc : n ≤ c) (hm : c ≤ maxLen) (h : Row w B A (ss.map .string)) :
    Strs w B (.slice (if c = k then A else A.map (·.add k)) (n - k) (c - k)) (ss.drop k) := by
  subst hn
  refine ⟨_, _, by rw [List.length_drop], by rw [List.length_drop]; omega, by omega, ?_⟩
  rcases h with h | ⟨b, off, rfl, hb, hcell⟩
  · have : ss = [] := by simpa using h
    subst this
    exact .inl (by simp)
  · by_cases hck : c = k
    · have : ss.drop k = [] := by rw [List.drop_eq_nil_iff]; omega
      rw [this]
      exact .inl rfl
    · rw [if_neg hck]
      refine .inr ⟨b, off + k, ?_, hb, fun j v hj => ?_⟩
      · simp only [Option.map_some, Addr.add]
        split <;> simp_all
      · rw [Nat.add_assoc]
        apply hcell
        rw [← hj, List.map_drop, List.getElem?_drop]

theorem strs_cut_at {w : World} {B b off c n k : Nat} {ss : List ByteArray} (hn : n = ss.length) (hk : k < n) (hc : n ≤ c) (hm : c ≤ maxLen) (h : Row w B (some ⟨b, off, none⟩) (ss.map .string)) :
    Strs w B (.slice (some ⟨b, off + k, none⟩) (n - k) (c - k)) (ss.drop k) := by
  have h1 := strs_cut hn (Nat.le_of_lt hk) hc hm h
  rw [if_neg (by omega)] at h1
  have e : Option.map (fun x : Addr => x.add k) (some ⟨b, off, none⟩) = some ⟨b, off + k, none⟩ := by
    simp only [Option.map_some, Addr.add]
    split <;> simp_all
  rw [e] at h1
  exact h1

/-- A store into another block. -/
theorem strs_set {w : World} {B b off n c : Nat} {ss : List ByteArray} {p : Addr} {u : Value} (h : Strs w B (.slice (some ⟨b, off, none⟩) n c) ss) (hp : p.block ≠ b) : Strs (w.setCell p u) B (.slice (some ⟨b, off, none⟩) n c) ss := by
  obtain ⟨A, c', e, h1, h2, h3⟩ := h
  injection e with e1 e2 e3
  subst e1 e2 e3
  refine ⟨_, _, rfl, h1, h2, ?_⟩
  rcases h3 with h3 | ⟨b', off', e, hb, hc⟩
  · exact .inl h3
  · refine .inr ⟨b', off', e, hb, fun j v hj => ?_⟩
    injection e with e
    injection e with e1 e2 _
    rw [World.cell?_setCell_other _ _ _ _ (by intro h; subst h; exact hp e1.symm)]
    exact hc j v hj

theorem strs_all {w : World} {b off c n : Nat} {ss : List ByteArray} (hn : n = ss.length) (h60 : n ≤ 60) (hc : n ≤ c) (hm : c ≤ maxLen) (h : Row w w.heap.size (some ⟨b, off, none⟩) (ss.map .string)) :
    Strs w w.heap.size (.slice (some ⟨b, off, none⟩) n c) (last60 ss) := by
  subst hn
  unfold last60
  rw [show ss.length - 60 = 0 by omega, List.drop_zero]
  exact ⟨_, _, rfl, hc, hm, h⟩
theorem strs_last {w : World} {b off c n : Nat} {ss : List ByteArray} (hn : n = ss.length) (h60 : ¬ n ≤ 60) (hc : n ≤ c) (hm : c ≤ maxLen) (h : Row w w.heap.size (some ⟨b, off, none⟩) (ss.map .string)) :
    Strs w w.heap.size (.slice (some ⟨b, off + (n - 60), none⟩) (n - (n - 60)) (c - (n - 60))) (last60 ss) := by
  have h1 := strs_cut_at (k := n - 60) hn (by omega) hc hm h
  subst hn
  exact h1

end Go.Proofs.Ytgllojpeggmleaa
