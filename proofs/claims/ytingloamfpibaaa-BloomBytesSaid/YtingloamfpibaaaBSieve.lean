/-
  PARTED KEYS: both Sieves.
-/
import Derived.Test.YtingloamfpibaaaBNew
import Derived.Deep.AppendLies
namespace Go.Proofs.Ytingloamfpibaaa
open Go.RowKit Go.Proofs.Mem
set_option linter.unusedVariables false

/-- Of the first k keys: those that are not in the sieve, those that may be. -/
def outK (g : ByteArray → Bool) (l : List ByteArray) (k : Nat) : List ByteArray := (l.take k).filter fun x => !g x
def inK (g : ByteArray → Bool) (l : List ByteArray) (k : Nat) : List ByteArray := (l.take k).filter g
theorem outK_succ (g : ByteArray → Bool) (l : List ByteArray) (k : Nat) (x : ByteArray) (h : l[k]? = some x) : outK g l (k + 1) = if g x then outK g l k else outK g l k ++ [x] := by
  unfold outK
  rw [List.take_add_one, h, List.filter_append]
  cases hg : g x <;> simp [hg]
theorem inK_succ (g : ByteArray → Bool) (l : List ByteArray) (k : Nat) (x : ByteArray) (h : l[k]? = some x) : inK g l (k + 1) = if g x then inK g l k ++ [x] else inK g l k := by
  unfold inK
  rw [List.take_add_one, h, List.filter_append]
  cases hg : g x <;> simp [hg]
theorem outK_len (g : ByteArray → Bool) (l : List ByteArray) (k : Nat) : (outK g l k).length ≤ k := Nat.le_trans (List.length_filter_le _ _) (by simp; omega)
theorem inK_len (g : ByteArray → Bool) (l : List ByteArray) (k : Nat) : (inK g l k).length ≤ k := Nat.le_trans (List.length_filter_le _ _) (by simp; omega)

theorem Try.infoT : (Try.prog.info? 9).map (fun i => (i.zero, i.size, i.bytes)) = some (some (.string ⟨#[]⟩), 1, 16) := by kernel_rfl

/-- Two lists that a call has laid. -/
def GotTwo (w : World) (o i : List ByteArray) (e : Ending) (w' : World) : Prop :=
  ∃ vo vi, e = .returned (.tuple #[vo, vi]) ∧ w'.ownsRow w.heap.size 9 1 vo o.length (o.map .string) ∧ w'.ownsRow w.heap.size 9 1 vi i.length (i.map .string) ∧ Below w.heap.size w w'
theorem own_less {w : World} {b b' n : Nat} {e : TypeId} {size : Nat} {v : Value} {xs : List Value} (h : w.ownsRow b e size v n xs) (hb : b' ≤ b) : w.ownsRow b' e size v n xs := by
  refine ⟨h.1, h.2.imp id ?_⟩
  rintro ⟨g, cap, cur, rfl, h1, h2⟩
  exact ⟨g, cap, cur, rfl, by omega, h2⟩

theorem own_slice {w : World} {b n : Nat} {e : TypeId} {size : Nat} {v : Value} {xs : List Value} (h : w.ownsRow b e size v n xs) : ∃ A m c, v = .slice A m c := by
  rcases h.2 with ⟨rfl, _⟩ | ⟨g, cap, cur, rfl, _⟩
  · exact ⟨_, _, _, rfl⟩
  · exact ⟨_, _, _, rfl⟩
/-- Two rows of the call's own, in blocks of their own. -/
structure Two (b : Nat) (vo vi : Value) (o i : List ByteArray) (W : World) : Prop where
  ho : W.ownsRow b 9 1 vo o.length (o.map .string)
  hi : W.ownsRow b 9 1 vi i.length (i.map .string)
  hn : ∀ g, vo.ownBlock = some g → vi.ownBlock = some g → False
theorem Two.swap {b : Nat} {vo vi : Value} {o i : List ByteArray} {W : World} (h : Two b vo vi o i W) : Two b vi vo i o W := ⟨h.hi, h.ho, fun g h1 h2 => h.hn g h2 h1⟩
theorem none_or {v : Value} {r : Option Nat} (h : ∀ g, v.ownBlock = some g → r ≠ some g) : v.ownBlock = none ∨ v.ownBlock ≠ r := by
  cases hv : v.ownBlock with
  | none => exact .inl rfl
  | some g => exact .inr fun e => h g hv e.symm
theorem Two.set {b : Nat} {vo vi : Value} {o i : List ByteArray} {W : World} (h : Two b vo vi o i W) (g : Nat) (hg : g < b) (v : Value) : Two b vo vi o i (W.setCell ⟨g, 0, none⟩ v) :=
  ⟨h.ho.kept (grownBy_setCell' W g v) (none_or fun q hq e => by have := (h.ho.lt q hq).1; injection e with e; omega), h.hi.kept (grownBy_setCell' W g v) (none_or fun q hq e => by have := (h.hi.lt q hq).1; injection e with e; omega), h.hn⟩
theorem Two.below {b : Nat} {vo vi : Value} {o i : List ByteArray} {w1 w2 : World} (h : Two b vo vi o i w1) (hb : Below w1.heap.size w1 w2) : Two b vo vi o i w2 := ⟨own_on h.ho hb, own_on h.hi hb, h.hn⟩
theorem Two.nil (b : Nat) (W : World) : Two b (.slice none 0 0) (.slice none 0 0) [] [] W := ⟨World.ownsRow_nil _ _ _ _, World.ownsRow_nil _ _ _ _, fun g h => by cases h⟩
/-- One more in the first. -/
theorem Two.more {b : Nat} {vo vi v' : Value} {o i : List ByteArray} {x : ByteArray} {w1 w2 : World} {g cap : Nat} (h : Two b vo vi o i w1) (h1 : v' = .slice (some ⟨g, 0, none⟩) (o.length + 1) cap)
    (h2 : w2.ownsRow b 9 1 v' (o.length + 1) (o.map .string ++ [.string x])) (h3 : (w1.alloc (.cells #[.string x] 9)).grownBy w2 vo.ownBlock) (h4 : vo.ownBlock = some g ∨ g = w1.heap.size + 1) : Two b v' vi (o ++ [x]) i w2 := by
  refine ⟨by simpa using h2, (h.hi.alloc _).kept h3 (none_or fun q hq e => h.hn q e hq), fun q h5 h6 => ?_⟩
  have : q = g := by rw [h1] at h5; simpa [Value.ownBlock] using h5.symm
  subst this
  rcases h4 with h4 | h4
  · exact h.hn q h4 h6
  · have := (h.hi.lt q h6).2
    omega

/-- Sieves' own cells between two rounds. -/
structure SvS (X : Nat) (bi ha : Int) (d : ByteArray) (vo vi : Value) (W : World) : Prop where
  c0 : W.cell? ⟨X, 0, none⟩ = some (.int .i64 bi)
  c1 : W.cell? ⟨X, 1, none⟩ = some (.int .i64 ha)
  c2 : W.cell? ⟨X, 2, none⟩ = some (.string d)
  co : W.cell? ⟨X + 1, 0, none⟩ = some vo
  ci : W.cell? ⟨X + 1 + 1, 0, none⟩ = some vi
  fo : W.frozen? ⟨X + 1, 0, none⟩ = false
  fi : W.frozen? ⟨X + 1 + 1, 0, none⟩ = false
theorem SvS.below {X : Nat} {bi ha : Int} {d : ByteArray} {vo vi : Value} {w1 w2 : World} (h : SvS X bi ha d vo vi w1) (hb : Below (X + 3) w1 w2) : SvS X bi ha d vo vi w2 :=
  ⟨(hb.cell (p := ⟨X, 0, none⟩) (by dsimp only; omega)).trans h.c0, (hb.cell (p := ⟨X, 1, none⟩) (by dsimp only; omega)).trans h.c1, (hb.cell (p := ⟨X, 2, none⟩) (by dsimp only; omega)).trans h.c2,
    (hb.cell (p := ⟨X + 1, 0, none⟩) (by dsimp only; omega)).trans h.co, (hb.cell (p := ⟨X + 1 + 1, 0, none⟩) (by dsimp only; omega)).trans h.ci,
    (hb.frozen (p := ⟨X + 1, 0, none⟩) (by dsimp only; omega)).trans h.fo, (hb.frozen (p := ⟨X + 1 + 1, 0, none⟩) (by dsimp only; omega)).trans h.fi⟩

set_option maxHeartbeats 1000000 in
theorem bsieve_any (g : ByteArray → Bool) (bi ha : Int) (d : ByteArray) (l : List ByteArray) (u : Value) (w : World) (hl : l.length ≤ 1000) (hs : Strs w w.heap.size u l)
    (hHas : ∀ key W, Calls Try.prog 16 #[.agg #[.int .i64 bi, .int .i64 ha, .string d], .string key] W fun e' w' => e' = .returned (.bool (g key)) ∧ Below W.heap.size W w') :
    Calls Try.prog 18 #[.agg #[.int .i64 bi, .int .i64 ha, .string d], u] w (GotTwo w (outK g l l.length) (inK g l l.length)) := by
  obtain ⟨i0, hi, hz0, hz1, hz2⟩ := info_parts Try.infoT
  obtain ⟨A1, c1, rfl, hm1, hm2, hr1⟩ := hs
  have HR1 := Lib.hid hr1
  clear hr1 hm1 hm2
  go_enter Try.func18, Try.ntmps18
  go_wp2
  obtain ⟨W0, hW0⟩ : ∃ W0, ((w.alloc (.cells #[.int .i64 bi, .int .i64 ha, .string d] 23)).alloc (.cells #[.slice none 0 0] 24)).alloc (.cells #[.slice none 0 0] 24) = W0 := ⟨_, rfl⟩
  have hsz : W0.heap.size = w.heap.size + 3 := by rw [← hW0]; simp only [World.size_alloc]
  have hS0 : SvS w.heap.size bi ha d (.slice none 0 0) (.slice none 0 0) W0 := by
    rw [← hW0]; clear hW0 hsz
    exact ⟨by go_simp, by go_simp, by go_simp, by go_simp, by go_simp, by go_simp, by go_simp⟩
  have hB0 : Below w.heap.size w W0 := by rw [← hW0]; clear hsz hW0; go_grown
  rw [hW0]
  clear hW0
  have HB0 := Lib.hid hB0
  have HS0 := Lib.hid hS0
  have HZ0 : Hid (w.heap.size + 3 ≤ W0.heap.size) := Lib.hid (by omega)
  clear hB0 hS0 hsz
  go_loopw [7, 8, 11] (fun _ _ i wr => ∃ (k : Nat) (vo vi : Value), i = .int .i64 k ∧ k ≤ l.length ∧ Hid (SvS w.heap.size bi ha d vo vi wr) ∧ Hid (Two (w.heap.size + 3) vo vi (outK g l k) (inK g l k) wr) ∧ Hid (Below w.heap.size w wr) ∧ Hid (w.heap.size + 3 ≤ wr.heap.size)) (fun _ _ i _ => l.length - (intOf i).toNat)
  case atStart => exact ⟨0, _, _, rfl, Nat.zero_le _, HS0, Lib.hid (Two.nil _ _), HB0, HZ0⟩
  case round =>
    obtain ⟨k, vo, vi, rfl, hk, HS, HT, HB, HZ⟩ := hrel
    clear HS0 HB0 HZ0
    obtain ⟨AO, nO, kO, rfl⟩ := own_slice HT.out.ho
    obtain ⟨AI, nI, kI, rfl⟩ := own_slice HT.out.hi
    by_cases hkl : k = l.length
    · have hkk : decide ((k : Int) < (l.length : Int)) = false := decide_eq_false (by omega)
      have hkn : decide (k < l.length) = false := decide_eq_false (by omega)
      obtain ⟨c0, c1', c2, co, ci, fo, fi⟩ := HS.out
      have hfin : Two (w.heap.size + 3) (.slice AO nO kO) (.slice AI nI kI) (outK g l l.length) (inK g l l.length) wr := by have := HT.out; rw [hkl] at this; exact this
      have HF := Lib.hid hfin
      clear hfin HT HS
      go_wp2
      have e1 : ((wr.setCell ⟨w.heap.size + 1, 0, none⟩ (.slice AO nO kO)).setCell ⟨w.heap.size + 1 + 1, 0, none⟩ (.slice AI nI kI)).cell? ⟨w.heap.size + 1, 0, none⟩ = some (.slice AO nO kO) := by go_simp
      have e2 : ((wr.setCell ⟨w.heap.size + 1, 0, none⟩ (.slice AO nO kO)).setCell ⟨w.heap.size + 1 + 1, 0, none⟩ (.slice AI nI kI)).cell? ⟨w.heap.size + 1 + 1, 0, none⟩ = some (.slice AI nI kI) := by go_simp
      refine bodyPost_ret (v := .tuple #[(.slice AO nO kO), (.slice AI nI kI)]) ?_ rfl ?_
      · simp only [results, Try.f18]
        go_simp
      · have h2 := (HF.out.set (w.heap.size + 1) (by omega) (.slice AO nO kO)).set (w.heap.size + 1 + 1) (by omega) (.slice AI nI kI)
        exact ⟨_, _, rfl, own_less h2.ho (by omega), own_less h2.hi (by omega), (HB.out.setCell (p := ⟨w.heap.size + 1, 0, none⟩) (by dsimp only; omega) _).setCell (p := ⟨w.heap.size + 1 + 1, 0, none⟩) (by dsimp only; omega) _⟩
    · have hlt : k < l.length := by omega
      have hlti : (k : Int) < (l.length : Int) := by omega
      have hk0 : (0 : Int) ≤ (k : Int) := Int.natCast_nonneg _
      have hkk : decide ((k : Int) < (l.length : Int)) = true := decide_eq_true (by omega)
      have hkn : decide (k < l.length) = true := decide_eq_true (by omega)
      obtain ⟨b1, o1, rfl, hb1, hcl1⟩ := HR1.out.at_ (by simp; omega)
      obtain ⟨x, hx⟩ : ∃ x, l[k]? = some x := ⟨l[k], List.getElem?_eq_getElem (by omega)⟩
      have q1 := (HB.out.cell (p := ⟨b1, o1 + k, none⟩) hb1).trans (hcl1 k (.string x) (by rw [List.getElem?_map, hx]; rfl))
      have HX := Lib.hid hx
      obtain ⟨c0, c1', c2, co, ci, fo, fi⟩ := HS.out
      obtain ⟨no, hno⟩ : ∃ no, no = (outK g l k).length := ⟨_, rfl⟩
      obtain ⟨ni, hni⟩ : ∃ ni, ni = (inK g l k).length := ⟨_, rfl⟩
      have hno9 : no ≤ 1000 := by have := outK_len g l k; omega
      have hni9 : ni ≤ 1000 := by have := inK_len g l k; omega
      have HNO := Lib.hid hno
      have HNI := Lib.hid hni
      clear hcl1 hx hno hni hkl HR1
      cases hg : g x with
      | false =>
        go_wp2_with (first
                           | (go_at_call 16
                              refine Calls.mono (hHas x _) ?_
                              rintro e w1 ⟨rfl, hB1⟩
                              rw [hg]
                              have hS1 := HS.out.below (hB1.mono HZ.out)
                              have HT1 := Lib.hid (HT.out.below hB1)
                              have HZ1 : Hid (w.heap.size + 3 ≤ w1.heap.size) := Lib.hid (Nat.le_trans HZ.out hB1.size)
                              have HB1 := Lib.hid (HB.out.trans (hB1.mono (Nat.le_trans (by omega) HZ.out)))
                              have HS1 := Lib.hid hS1
                              obtain ⟨d0, d1, d2, do_, di, go_, gi⟩ := hS1
                              clear c0 c1' c2 co ci fo fi HS HT HB HZ hB1)
                           | (at_builtin
                              refine wpList_append_lies _ rfl _ _ _ rfl (w.heap.size + 3) 9 i0 _ 1 16 Try.underlying24 hi hz0 hz1 hz2 rfl (by omega) (.slice AO nO kO) no _ rfl ((by rw [HNO.out]; exact HT1.out.ho : w1.ownsRow (w.heap.size + 3) 9 1 (.slice AO nO kO) no _).alloc _) ⟨w1.heap.size, 0, none⟩ 1 1 [.string x] rfl rfl (World.news_of_block (cs := #[.string x]) (t := 9) (fr := (0, 0)) (heap_alloc_new w1 _)) (by simp [Value.oneCell']) (by omega) (by unfold maxLen; omega) (by omega) (by have := HZ1.out; simp; omega) (w1.heap.size + 1) (by simp) ?_
                              intro gg cap w2 hown2 hgrow hat hlt
                              have hb2 : Below (w.heap.size + 3) w1 w2 := (((Below.refl _ _).alloc HZ1.out _)).grown hgrow (by have := HZ1.out; simp; omega) (fun q e => (HT1.out.ho.lt q e).1)
                              have hS2 := HS1.out.below hb2
                              have HS2 := Lib.hid hS2
                              have HT2 : Hid (Two (w.heap.size + 3) (.slice (some ⟨gg, 0, none⟩) (no + 1) cap) (.slice AI nI kI) (outK g l k ++ [x]) (inK g l k) w2) := Lib.hid (HT1.out.more (cap := cap) (by rw [← HNO.out]) (by rw [← HNO.out]; exact hown2) hgrow hat)
                              have HB2 : Hid (Below w.heap.size w w2) := Lib.hid (HB1.out.trans (hb2.mono (by omega)))
                              have HZ2 : Hid (w.heap.size + 3 ≤ w2.heap.size) := Lib.hid (Nat.le_trans HZ1.out hb2.size)
                              obtain ⟨e0, e1, e2, eo, ei, fo2, fi2⟩ := hS2
                              clear HS1 HT1 HB1 HZ1 d0 d1 d2 do_ di go_ gi hown2 hgrow hat hlt hb2))
        go_roundw
        case rel =>
          refine ⟨k + 1, .slice (some ⟨gg, 0, none⟩) (no + 1) cap, (.slice AI nI kI), by go_num, by omega, Lib.hid ⟨by go_simp, by go_simp, by go_simp, by go_simp, by go_simp, by go_simp, by go_simp⟩, Lib.hid ?_, Lib.hid (HB2.out.setCell (p := ⟨w.heap.size + 1, 0, none⟩) (by dsimp only; omega) _), Lib.hid (by have := HZ2.out; simp only [World.size_setCell]; exact this)⟩
          rw [outK_succ g l k x HX.out, inK_succ g l k x HX.out, hg]
          exact HT2.out.set (w.heap.size + 1) (by omega) _
        case measure => simp [intOf]; omega
      | true =>
        go_wp2_with (first
                           | (go_at_call 16
                              refine Calls.mono (hHas x _) ?_
                              rintro e w1 ⟨rfl, hB1⟩
                              rw [hg]
                              have hS1 := HS.out.below (hB1.mono HZ.out)
                              have HT1 := Lib.hid (HT.out.below hB1)
                              have HZ1 : Hid (w.heap.size + 3 ≤ w1.heap.size) := Lib.hid (Nat.le_trans HZ.out hB1.size)
                              have HB1 := Lib.hid (HB.out.trans (hB1.mono (Nat.le_trans (by omega) HZ.out)))
                              have HS1 := Lib.hid hS1
                              obtain ⟨d0, d1, d2, do_, di, go_, gi⟩ := hS1
                              clear c0 c1' c2 co ci fo fi HS HT HB HZ hB1)
                           | (at_builtin
                              refine wpList_append_lies _ rfl _ _ _ rfl (w.heap.size + 3) 9 i0 _ 1 16 Try.underlying24 hi hz0 hz1 hz2 rfl (by omega) (.slice AI nI kI) ni _ rfl ((by rw [HNI.out]; exact HT1.out.hi : w1.ownsRow (w.heap.size + 3) 9 1 (.slice AI nI kI) ni _).alloc _) ⟨w1.heap.size, 0, none⟩ 1 1 [.string x] rfl rfl (World.news_of_block (cs := #[.string x]) (t := 9) (fr := (0, 0)) (heap_alloc_new w1 _)) (by simp [Value.oneCell']) (by omega) (by unfold maxLen; omega) (by omega) (by have := HZ1.out; simp; omega) (w1.heap.size + 1) (by simp) ?_
                              intro gg cap w2 hown2 hgrow hat hlt
                              have hb2 : Below (w.heap.size + 3) w1 w2 := (((Below.refl _ _).alloc HZ1.out _)).grown hgrow (by have := HZ1.out; simp; omega) (fun q e => (HT1.out.hi.lt q e).1)
                              have hS2 := HS1.out.below hb2
                              have HS2 := Lib.hid hS2
                              have HT2 : Hid (Two (w.heap.size + 3) (.slice AO nO kO) (.slice (some ⟨gg, 0, none⟩) (ni + 1) cap) (outK g l k) (inK g l k ++ [x]) w2) := Lib.hid ((HT1.out.swap.more (cap := cap) (by rw [← HNI.out]) (by rw [← HNI.out]; exact hown2) hgrow hat).swap)
                              have HB2 : Hid (Below w.heap.size w w2) := Lib.hid (HB1.out.trans (hb2.mono (by omega)))
                              have HZ2 : Hid (w.heap.size + 3 ≤ w2.heap.size) := Lib.hid (Nat.le_trans HZ1.out hb2.size)
                              obtain ⟨e0, e1, e2, eo, ei, fo2, fi2⟩ := hS2
                              clear HS1 HT1 HB1 HZ1 d0 d1 d2 do_ di go_ gi hown2 hgrow hat hlt hb2))
        go_roundw
        case rel =>
          refine ⟨k + 1, .slice AO nO kO, .slice (some ⟨gg, 0, none⟩) (ni + 1) cap, by go_num, by omega, Lib.hid ⟨by go_simp, by go_simp, by go_simp, by go_simp, by go_simp, by go_simp, by go_simp⟩, Lib.hid ?_, Lib.hid (HB2.out.setCell (p := ⟨w.heap.size + 1 + 1, 0, none⟩) (by dsimp only; omega) _), Lib.hid (by have := HZ2.out; simp only [World.size_setCell]; exact this)⟩
          rw [outK_succ g l k x HX.out, inK_succ g l k x HX.out, hg]
          exact HT2.out.set (w.heap.size + 1 + 1) (by omega) _
        case measure => simp [intOf]; omega

theorem below_cells {X : Nat} {w1 w2 : World} {v0 v1 v2 : Value} (hb : Below (X + 1) w1 w2) (h : w1.cell? ⟨X, 0, none⟩ = some v0 ∧ w1.cell? ⟨X, 1, none⟩ = some v1 ∧ w1.cell? ⟨X, 2, none⟩ = some v2) :
    w2.cell? ⟨X, 0, none⟩ = some v0 ∧ w2.cell? ⟨X, 1, none⟩ = some v1 ∧ w2.cell? ⟨X, 2, none⟩ = some v2 :=
  ⟨(hb.cell (p := ⟨X, 0, none⟩) (by dsimp only; omega)).trans h.1, (hb.cell (p := ⟨X, 1, none⟩) (by dsimp only; omega)).trans h.2.1, (hb.cell (p := ⟨X, 2, none⟩) (by dsimp only; omega)).trans h.2.2⟩

set_option maxHeartbeats 1000000 in
theorem rsieve_any (g : ByteArray → Bool) (bi ha : Int) (d : ByteArray) (l : List ByteArray) (u : Value) (w : World) (hl : l.length ≤ 1000) (hs : Strs w w.heap.size u l)
    (hHas : ∀ key W, Calls Try.prog 17 #[.agg #[.int .i64 bi, .int .i64 ha, .string d], .string key] W fun e' w' => e' = .returned (.bool (g key)) ∧ Below W.heap.size W w') :
    Calls Try.prog 19 #[.agg #[.int .i64 bi, .int .i64 ha, .string d], u] w (GotTwo w (outK g l l.length) (inK g l l.length)) := by
  obtain ⟨i0, hi, hz0, hz1, hz2⟩ := info_parts Try.infoT
  obtain ⟨A1, c1, rfl, hm1, hm2, hr1⟩ := hs
  have HR1 := Lib.hid hr1
  clear hr1 hm1 hm2
  go_enter Try.func19, Try.ntmps19
  go_wp2
  obtain ⟨W0, hW0⟩ : ∃ W0, (w.alloc (.cells #[.int .i64 bi, .int .i64 ha, .string d] 23)) = W0 := ⟨_, rfl⟩
  have hsz : W0.heap.size = w.heap.size + 1 := by rw [← hW0]; simp only [World.size_alloc]
  have hS0 : W0.cell? ⟨w.heap.size, 0, none⟩ = some (.int .i64 bi) ∧ W0.cell? ⟨w.heap.size, 1, none⟩ = some (.int .i64 ha) ∧ W0.cell? ⟨w.heap.size, 2, none⟩ = some (.string d) := by
    rw [← hW0]; clear hW0 hsz
    exact ⟨by go_simp, by go_simp, by go_simp⟩
  have hB0 : Below w.heap.size w W0 := by rw [← hW0]; clear hsz hW0; go_grown
  rw [hW0]
  clear hW0
  have HB0 := Lib.hid hB0
  have HS0 := Lib.hid hS0
  have HZ0 : Hid (w.heap.size + 1 ≤ W0.heap.size) := Lib.hid (by omega)
  clear hB0 hS0 hsz
  go_loopw [6, 7, 8] (fun vo vi i wr => ∃ (k : Nat), i = .int .i64 k ∧ k ≤ l.length ∧ Hid (wr.cell? ⟨w.heap.size, 0, none⟩ = some (.int .i64 bi) ∧ wr.cell? ⟨w.heap.size, 1, none⟩ = some (.int .i64 ha) ∧ wr.cell? ⟨w.heap.size, 2, none⟩ = some (.string d)) ∧ Hid (Two (w.heap.size + 1) vo vi (outK g l k) (inK g l k) wr) ∧ Hid (Below w.heap.size w wr) ∧ Hid (w.heap.size + 1 ≤ wr.heap.size)) (fun _ _ i _ => l.length - (intOf i).toNat)
  case atStart => exact ⟨0, rfl, Nat.zero_le _, HS0, Lib.hid (Two.nil _ _), HB0, HZ0⟩
  case round =>
    obtain ⟨k, rfl, hk, HS, HT, HB, HZ⟩ := hrel
    clear HS0 HB0 HZ0
    rename_i vo vi
    obtain ⟨AO, nO, kO, rfl⟩ := own_slice HT.out.ho
    obtain ⟨AI, nI, kI, rfl⟩ := own_slice HT.out.hi
    by_cases hkl : k = l.length
    · have hkk : decide ((k : Int) < (l.length : Int)) = false := decide_eq_false (by omega)
      have hkn : decide (k < l.length) = false := decide_eq_false (by omega)
      have hfin : Two (w.heap.size + 1) (.slice AO nO kO) (.slice AI nI kI) (outK g l l.length) (inK g l l.length) wr := by have := HT.out; rw [hkl] at this; exact this
      have HF := Lib.hid hfin
      clear hfin HT HS
      go_wp2
      refine bodyPost_ret (v := .tuple #[.slice AO nO kO, .slice AI nI kI]) ?_ rfl ?_
      · simp only [results, Try.f19]
        go_simp
      · exact ⟨_, _, rfl, own_less HF.out.ho (by omega), own_less HF.out.hi (by omega), HB.out⟩
    · have hlt : k < l.length := by omega
      have hlti : (k : Int) < (l.length : Int) := by omega
      have hk0 : (0 : Int) ≤ (k : Int) := Int.natCast_nonneg _
      have hkk : decide ((k : Int) < (l.length : Int)) = true := decide_eq_true (by omega)
      have hkn : decide (k < l.length) = true := decide_eq_true (by omega)
      obtain ⟨b1, o1, rfl, hb1, hcl1⟩ := HR1.out.at_ (by simp; omega)
      obtain ⟨x, hx⟩ : ∃ x, l[k]? = some x := ⟨l[k], List.getElem?_eq_getElem (by omega)⟩
      have hq1 := hcl1 k (.string x) (by rw [List.getElem?_map, hx]; rfl)
      have HX := Lib.hid hx
      obtain ⟨no, hno⟩ : ∃ no, no = (outK g l k).length := ⟨_, rfl⟩
      obtain ⟨ni, hni⟩ : ∃ ni, ni = (inK g l k).length := ⟨_, rfl⟩
      have hno9 : no ≤ 1000 := by have := outK_len g l k; omega
      have hni9 : ni ≤ 1000 := by have := inK_len g l k; omega
      have HNO := Lib.hid hno
      have HNI := Lib.hid hni
      have HQ1 := Lib.hid hq1
      have HB1' := Lib.hid hb1
      clear hcl1 hx hno hni hkl HR1 hq1 hb1
      go_wp2
      refine wp_region_still_tail 5 (by kernel_rfl) (by kernel_rfl) ?_
      change wpStill _ _ wr.drew (fun a' => wpList _ _ _ _ a' wr.drew) _ _
      generalize hT : (fun a' => wpList _ _ _ _ a' wr.drew) = T
      have HTT := Lib.hid hT
      clear hT
      obtain ⟨c0, c1', c2⟩ : wr.drew.cell? ⟨w.heap.size, 0, none⟩ = some (.int .i64 bi) ∧ wr.drew.cell? ⟨w.heap.size, 1, none⟩ = some (.int .i64 ha) ∧ wr.drew.cell? ⟨w.heap.size, 2, none⟩ = some (.string d) := HS.out
      have q1 : wr.drew.cell? ⟨b1, o1 + k, none⟩ = some (.string x) := (HB.out.cell (p := ⟨b1, o1 + k, none⟩) HB1'.out).trans HQ1.out
      have HTd : Hid (Two (w.heap.size + 1) (.slice AO nO kO) (.slice AI nI kI) (outK g l k) (inK g l k) wr.drew) := Lib.hid (HT.out.below (Below.refl _ _).drew)
      have HSd : Hid (wr.drew.cell? ⟨w.heap.size, 0, none⟩ = some (.int .i64 bi) ∧ wr.drew.cell? ⟨w.heap.size, 1, none⟩ = some (.int .i64 ha) ∧ wr.drew.cell? ⟨w.heap.size, 2, none⟩ = some (.string d)) := Lib.hid HS.out
      have HBd : Hid (Below w.heap.size w wr.drew) := Lib.hid HB.out.drew
      have HZd : Hid (w.heap.size + 1 ≤ wr.drew.heap.size) := Lib.hid HZ.out
      clear HT HS HB HZ
      generalize wr.drew = wd at *
      simp only [List.take_succ_cons, List.take_zero]
      iterate 5 still_step
      refine wpStill_nil ?_
      rw [← HTT.out]
      clear HTT
      simp only [List.drop_succ_cons, List.drop_zero]
      cases hg : g x with
      | false =>
        go_wp2_with (first
                           | (go_at_call 17
                              refine Calls.mono (hHas x _) ?_
                              rintro e w1 ⟨rfl, hB1⟩
                              rw [hg]
                              have hS1 := below_cells (hB1.mono HZd.out) HSd.out
                              have HT1 := Lib.hid (HTd.out.below hB1)
                              have HZ1 : Hid (w.heap.size + 1 ≤ w1.heap.size) := Lib.hid (Nat.le_trans HZd.out hB1.size)
                              have HB1 := Lib.hid (HBd.out.trans (hB1.mono (Nat.le_trans (by omega) HZd.out)))
                              have HS1 := Lib.hid hS1
                              have q2 : w1.cell? ⟨b1, o1 + k, none⟩ = some (.string x) := (HB1.out.cell (p := ⟨b1, o1 + k, none⟩) HB1'.out).trans HQ1.out
                              clear hS1 c0 c1' c2 q1 HSd HTd HBd HZd hB1)
                           | (at_builtin
                              refine wpList_append_lies _ rfl _ _ _ rfl (w.heap.size + 1) 9 i0 _ 1 16 Try.underlying24 hi hz0 hz1 hz2 rfl (by omega) (.slice AO nO kO) no _ rfl ((by rw [HNO.out]; exact HT1.out.ho : w1.ownsRow (w.heap.size + 1) 9 1 (.slice AO nO kO) no _).alloc _) ⟨w1.heap.size, 0, none⟩ 1 1 [.string x] rfl rfl (World.news_of_block (cs := #[.string x]) (t := 9) (fr := (0, 0)) (heap_alloc_new w1 _)) (by simp [Value.oneCell']) (by omega) (by unfold maxLen; omega) (by omega) (by have := HZ1.out; simp; omega) (w1.heap.size + 1) (by simp) ?_
                              intro gg cap w2 hown2 hgrow hat hlt
                              have hb2 : Below (w.heap.size + 1) w1 w2 := (((Below.refl _ _).alloc HZ1.out _)).grown hgrow (by have := HZ1.out; simp; omega) (fun q e => (HT1.out.ho.lt q e).1)
                              have hS2 := below_cells hb2 HS1.out
                              have HS2 := Lib.hid hS2
                              have HT2 : Hid (Two (w.heap.size + 1) (.slice (some ⟨gg, 0, none⟩) (no + 1) cap) (.slice AI nI kI) (outK g l k ++ [x]) (inK g l k) w2) := Lib.hid (HT1.out.more (cap := cap) (by rw [← HNO.out]) (by rw [← HNO.out]; exact hown2) hgrow hat)
                              have HB2 : Hid (Below w.heap.size w w2) := Lib.hid (HB1.out.trans (hb2.mono (by omega)))
                              have HZ2 : Hid (w.heap.size + 1 ≤ w2.heap.size) := Lib.hid (Nat.le_trans HZ1.out hb2.size)
                              clear hS2 HS1 HT1 HB1 HZ1 hown2 hgrow hat hlt hb2 q2))
        go_roundw
        case rel =>
          refine ⟨k + 1, by go_num, by omega, HS2, Lib.hid ?_, HB2, HZ2⟩
          rw [outK_succ g l k x HX.out, inK_succ g l k x HX.out, hg]
          exact HT2.out
        case measure => simp [intOf]; omega
      | true =>
        go_wp2_with (first
                           | (go_at_call 17
                              refine Calls.mono (hHas x _) ?_
                              rintro e w1 ⟨rfl, hB1⟩
                              rw [hg]
                              have hS1 := below_cells (hB1.mono HZd.out) HSd.out
                              have HT1 := Lib.hid (HTd.out.below hB1)
                              have HZ1 : Hid (w.heap.size + 1 ≤ w1.heap.size) := Lib.hid (Nat.le_trans HZd.out hB1.size)
                              have HB1 := Lib.hid (HBd.out.trans (hB1.mono (Nat.le_trans (by omega) HZd.out)))
                              have HS1 := Lib.hid hS1
                              have q2 : w1.cell? ⟨b1, o1 + k, none⟩ = some (.string x) := (HB1.out.cell (p := ⟨b1, o1 + k, none⟩) HB1'.out).trans HQ1.out
                              clear hS1 c0 c1' c2 q1 HSd HTd HBd HZd hB1)
                           | (at_builtin
                              refine wpList_append_lies _ rfl _ _ _ rfl (w.heap.size + 1) 9 i0 _ 1 16 Try.underlying24 hi hz0 hz1 hz2 rfl (by omega) (.slice AI nI kI) ni _ rfl ((by rw [HNI.out]; exact HT1.out.hi : w1.ownsRow (w.heap.size + 1) 9 1 (.slice AI nI kI) ni _).alloc _) ⟨w1.heap.size, 0, none⟩ 1 1 [.string x] rfl rfl (World.news_of_block (cs := #[.string x]) (t := 9) (fr := (0, 0)) (heap_alloc_new w1 _)) (by simp [Value.oneCell']) (by omega) (by unfold maxLen; omega) (by omega) (by have := HZ1.out; simp; omega) (w1.heap.size + 1) (by simp) ?_
                              intro gg cap w2 hown2 hgrow hat hlt
                              have hb2 : Below (w.heap.size + 1) w1 w2 := (((Below.refl _ _).alloc HZ1.out _)).grown hgrow (by have := HZ1.out; simp; omega) (fun q e => (HT1.out.hi.lt q e).1)
                              have hS2 := below_cells hb2 HS1.out
                              have HS2 := Lib.hid hS2
                              have HT2 : Hid (Two (w.heap.size + 1) (.slice AO nO kO) (.slice (some ⟨gg, 0, none⟩) (ni + 1) cap) (outK g l k) (inK g l k ++ [x]) w2) := Lib.hid ((HT1.out.swap.more (cap := cap) (by rw [← HNI.out]) (by rw [← HNI.out]; exact hown2) hgrow hat).swap)
                              have HB2 : Hid (Below w.heap.size w w2) := Lib.hid (HB1.out.trans (hb2.mono (by omega)))
                              have HZ2 : Hid (w.heap.size + 1 ≤ w2.heap.size) := Lib.hid (Nat.le_trans HZ1.out hb2.size)
                              clear hS2 HS1 HT1 HB1 HZ1 hown2 hgrow hat hlt hb2 q2))
        go_roundw
        case rel =>
          refine ⟨k + 1, by go_num, by omega, HS2, Lib.hid ?_, HB2, HZ2⟩
          rw [outK_succ g l k x HX.out, inK_succ g l k x HX.out, hg]
          exact HT2.out
        case measure => simp [intOf]; omega
end Go.Proofs.Ytingloamfpibaaa
