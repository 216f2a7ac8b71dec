/-
  bloom.Has: THE WALK.
-/
import Derived.Test.YtingloamfpibaaaBBAdd
namespace Go.Proofs.Ytingloamfpibaaa
open Go.RowKit Go.Shelf Go.Proofs.Mem
attribute [local go_sem] Oper.semAt_some
set_option linter.unusedVariables false

theorem all_snocM {α : Type} {l : List α} {x : α} {p : α → Prop} (h : ∀ y ∈ l, p y) (hx : p x) : ∀ y ∈ l ++ [x], p y := fun y hy => (List.mem_append.1 hy).elim (h y) (fun e => by rw [List.mem_singleton.1 e]; exact hx)
/-- A mark's bit is set. -/
def hits (d : ByteArray) (q : Nat × Nat) : Bool := !((byteAt d q.1 &&& q.2) == 0)
/-- A key may be there. -/
def hasF (key : ByteArray) (B H : Nat) (d : ByteArray) : Bool := decide (key.size = 32) && (marksL key B H).all (hits d)

set_option maxHeartbeats 2000000 in
theorem bhas_in (e h : Nat) (d key : ByteArray) (w : World) (he : e ≤ 10) (hh : h ≤ 8) (hd : d.size = 8 * 2 ^ e) :
    CallsIn Fence.wide 10 Try.prog 16 #[.agg #[.int .i64 ((64 * 2 ^ e : Nat) : Int), .int .i64 h, .string d], .string key] w fun e' w' => e' = .returned (.bool (hasF key (64 * 2 ^ e) h d)) ∧ Below w.heap.size w w' := by
  obtain ⟨bi, hbi⟩ : ∃ bi, bi = 64 * 2 ^ e := ⟨_, rfl⟩
  have hp1 : 2 ^ e ≤ 2 ^ 10 := Nat.pow_le_pow_right (by decide) he
  have hp0 : 1 ≤ 2 ^ e := Nat.one_le_two_pow
  have hb64 : 64 ≤ bi := by omega
  have hb65 : bi ≤ 65536 := by omega
  have hdb : d.size * 8 = bi := by omega
  have HBI := Lib.hid hbi
  have HDB := Lib.hid hdb
  rw [← hbi]
  clear hbi hdb hp1 hp0 hd
  refine callsIn_of_wp_marks Try.func16 rfl trivial ?_ rfl
  simp only [Try.ntmps16, List.size_toArray, List.length_cons, List.length_nil, Nat.reduceAdd, Nat.reduceSub, Array.replicate_succ, Array.replicate_zero, List.push_toArray, List.append_toArray, List.nil_append, List.cons_append]
  refine wpIn_wide.2 ?_
  go_wp2_with (go_at_call 29; refine Calls.mono (marks_any _ _ _ _ _) ?_; rintro e w' ⟨rfl, rfl⟩)
  obtain ⟨W2, hW2⟩ : ∃ W2, ((((w.alloc (.cells #[.int .i64 bi, .int .i64 h, .string d] 23)).alloc (.cells #[.bool false] 4)).alloc (.cells #[.int .i64 bi, .int .i64 h, .string d] 52)).alloc (.cells #[.string key] 9)) = W2 := ⟨_, rfl⟩
  have hsz : W2.heap.size = w.heap.size + 4 := by rw [← hW2]; simp only [World.size_alloc]
  have c2 : W2.cell? ⟨w.heap.size, 2, none⟩ = some (.string d) := by rw [← hW2]; clear hW2 hsz; go_simp
  have r0 : W2.cell? ⟨w.heap.size + 1, 0, none⟩ = some (.bool false) := by rw [← hW2]; clear hW2 hsz; go_simp
  have rf : W2.frozen? ⟨w.heap.size + 1, 0, none⟩ = false := by rw [← hW2]; clear hW2 hsz; go_simp
  have u1 : W2.cell? ⟨w.heap.size + 1 + 1, 0, none⟩ = some (.int .i64 bi) := by rw [← hW2]; clear hW2 hsz; go_simp
  have u2 : W2.cell? ⟨w.heap.size + 1 + 1, 1, none⟩ = some (.int .i64 h) := by rw [← hW2]; clear hW2 hsz; go_simp
  have u3 : W2.cell? ⟨w.heap.size + 1 + 1 + 1, 0, none⟩ = some (.string key) := by rw [← hW2]; clear hW2 hsz; go_simp
  have hB2 : Below w.heap.size w W2 := by rw [← hW2]; clear hW2 hsz; go_grown
  rw [hW2]
  clear hW2
  refine (wpIn_wide (n := 9)).1 ?_
  refine wpIn_rangeFunc_ownF rfl (by omega) (gf := 36) (lb := #[.pointer (some ⟨w.heap.size + 1 + 1 + 1, 0, none⟩), .pointer (some ⟨w.heap.size + 1 + 1, 0, none⟩)]) rfl trivial (enters_of Try.func36 (by kernel_rfl) rfl)
    (marks_stops (w.heap.size + 1 + 1 + 1) (w.heap.size + 1 + 1) e h key W2 he hh (by omega) (by omega) u3 (by rw [← HBI.out]; exact u1) u2) (fun h k => cellK_t h k) (cellK_b (by omega)) (Below.refl _ _) (fun _ => rfl)
    (fun pre W => (W.cell? ⟨w.heap.size, 2, none⟩ = some (.string d) ∧ W.cell? ⟨w.heap.size + 1, 0, none⟩ = some (.bool false) ∧ W.frozen? ⟨w.heap.size + 1, 0, none⟩ = false) ∧ (Below w.heap.size w W ∧ ∀ y ∈ pre, hits d y.1 = true))
    (fun c pre W => W.cell? ⟨w.heap.size + 1, 0, none⟩ = some (.bool false) ∧ (Below w.heap.size w W ∧ (c = .ret ∧ ∃ y ∈ pre, hits d y.1 = false)))
    (OwnFrom.and (Own.from (fun s A B row hs hg hr => ⟨cell_kept hs.1 hg hr, cell_kept hs.2.1 hg hr, (frozen_kept hs.2.1 hg hr).trans hs.2.2⟩) _) (OwnFrom.and (ownFrom_below (Nat.le_refl _) (by omega)) (ownFrom_pure _ _)))
    (fun c => OwnFrom.and (Own.from (fun s A B row hs hg hr => by exact cell_kept hs hg hr) _) (OwnFrom.and (ownFrom_below (Nat.le_refl _) (by omega)) (ownFrom_pure _ _)))
    ⟨⟨c2, r0, rf⟩, hB2, by simp⟩
    (fun x => { tmps := #[.agg #[.int .i64 bi, .int .i64 h, .string d], .string key, .pointer (some ⟨w.heap.size, 0, none⟩), undef, .pointer (some ⟨w.heap.size + 1, 0, none⟩), .int .i64 (x.1.1 : Nat), .int .u8 (x.1.2 : Nat), .agg #[.int .i64 bi, .int .i64 h, .string d], .agg #[.int .i64 bi, .int .i64 h, .string d], .string key,
      .func (.func 36) #[] #[.pointer (some ⟨w.heap.size + 1 + 1 + 1, 0, none⟩), .pointer (some ⟨w.heap.size + 1 + 1, 0, none⟩)], .int .i64 (x.1.1 : Nat), .int .u8 (x.1.2 : Nat), undef, undef, undef, undef, undef, undef, undef, undef, undef, undef], defers := [] }) ?assign ?body ?done ?stop
  case assign =>
    intro l x W K hK
    simp only [encM]
    gi_wp2
    exact hK
  case body =>
    rintro l pre x W ⟨⟨k1, k2, k3⟩, hB, hp⟩ _
    obtain ⟨p, hpb, hx1, hx2⟩ := mark_is (by rw [← HBI.out]; omega) x
    have hbv : x.1.2 < 256 := by rw [hx2]; exact pow_byte p
    have hiv : x.1.1 < d.size := by have := HDB.out; have := HBI.out; omega
    obtain ⟨q, hq⟩ : ∃ q, x.1 = q := ⟨_, rfl⟩
    have HQ := Lib.hid hq
    rw [hq] at hbv hiv ⊢
    have hne : (byteAt d q.1 : Int) = (d[q.1].toNat : Int) := by rw [byteAt_eq d q.1 hiv]
    have hba : bits .and .u8 (d[q.1].toNat : Int) (q.2 : Int) = ((byteAt d q.1 &&& q.2 : Nat) : Int) := by rw [← hne]; exact and_u8 _ _ (by have := byteAt_lt d q.1; omega) (by omega)
    have hi0 : (0 : Int) ≤ (q.1 : Int) := Int.natCast_nonneg _
    have hi1 : (q.1 : Int) < (d.size : Int) := by omega
    have hh1 : hits d q = !((byteAt d q.1 &&& q.2) == 0) := rfl
    have HH := Lib.hid hh1
    have HPr := Lib.hid hp
    generalize byteAt d q.1 &&& q.2 = z at *
    have hBi := Lib.hid hB
    clear hx1 hx2 hq hp hB hpb hne hbv hh1 u1 u2 u3 c2 r0 rf
    by_cases hz : z = 0
    · subst hz
      gi_wp2
      exact ⟨KeepsOthers.setCell _ _ _, by go_simp, hBi.out.setCell (p := ⟨w.heap.size + 1, 0, none⟩) (Nat.le_succ _) _, rfl, x, List.mem_append_right _ (List.mem_singleton.2 rfl), by rw [HQ.out, HH.out]; rfl⟩
    · have hz' : ((z : Int) == 0) = false := beq_eq_false_iff_ne.2 (by omega)
      gi_wp2
      exact ⟨KeepsOthers.refl _, rfl, ⟨k1, k2, k3⟩, hBi.out, all_snocM HPr.out (by rw [HQ.out, HH.out, beq_eq_false_iff_ne.2 hz]; rfl)⟩
  case done =>
    rintro D ys W hD rfl ⟨⟨k1, k2, k3⟩, hB, hp⟩ hK
    have hr : ((key.size : Int) == 32) = hasF key bi h d := by
      unfold hasF
      rw [HBI.out]
      have hall : (marksL key (64 * 2 ^ e) h).all (hits d) = true := List.all_eq_true.2 (fun y hy => hp ⟨y, hy⟩ (List.mem_attach _ _))
      rw [hall, Bool.and_true]
      by_cases hk : key.size = 32
      · rw [decide_eq_true hk]; exact beq_iff_eq.2 (by omega)
      · rw [decide_eq_false hk]; exact beq_eq_false_iff_ne.2 (by omega)
    have HR := Lib.hid hr
    have HB := Lib.hid hB
    have HD := Lib.hid hD
    clear hr hp hB hD c2 r0 rf u1 u2 u3
    gi_wp2
    go_wp2
    have hD' := HD.out
    obtain ⟨w9, hw9⟩ : ∃ w9, W.setCell ⟨w.heap.size + 1, 0, none⟩ (.bool ((key.size : Int) == 32)) = w9 := ⟨_, rfl⟩
    have q0 : w9.cell? ⟨w.heap.size + 1, 0, none⟩ = some (.bool (hasF key bi h d)) := by rw [← hw9, HR.out]; clear hw9; go_simp
    have hBf : Below w.heap.size w w9 := by rw [← hw9]; exact HB.out.setCell (p := ⟨w.heap.size + 1, 0, none⟩) (Nat.le_succ _) _
    have hK9 : w9.heap[D]? = some (.deferred (some [])) := by rw [← hw9]; exact (Below.heap_setCell _ _ _ _ (by dsimp only; omega)).trans hK
    rw [hw9]
    clear hw9 k1 k2 k3
    refine ⟨by simp, .inl ⟨_, _, rfl, run_takeDeferred hK9, .bool (hasF key bi h d), ?_, rfl, hBf.trans (belowK_b (w := w) (Nat.le_refl _) w9 D _ _ (by omega) hK9 rfl rfl)⟩⟩
    have hb : Below W2.heap.size w9 _ := belowK_b (w := W2) (Nat.le_refl _) w9 D _ (.deferred none) hD' hK9 rfl rfl
    have z0 := (hb.cell (p := ⟨w.heap.size + 1, 0, none⟩) (by dsimp only; omega)).trans q0
    clear q0
    simp only [results, Try.f16]
    go_simp
  case stop =>
    rintro D c pre W hD hpre ⟨hc, hB, rfl, hst⟩ hK
    have hr : hasF key bi h d = false := by
      unfold hasF
      rw [HBI.out]
      obtain ⟨y, _, hy⟩ := hst
      have hall : (marksL key (64 * 2 ^ e) h).all (hits d) = false := by
        rw [Bool.eq_false_iff]
        intro ht
        rw [List.all_eq_true.1 ht y.1 y.2] at hy
        cases hy
      rw [hall, Bool.and_false]
    have HR := Lib.hid hr
    have HB := Lib.hid hB
    clear hr hst hB c2 r0 rf u1 u2 u3 hpre
    gi_wp2
    refine ⟨by simp, .inl ⟨_, _, rfl, run_takeDeferred hK, .bool false, ?_, by rw [HR.out], HB.out.trans (belowK_b (w := w) (Nat.le_refl _) W D _ _ (by omega) hK rfl rfl)⟩⟩
    have hb : Below W2.heap.size W _ := belowK_b (w := W2) (Nat.le_refl _) W D _ (.deferred none) hD hK rfl rfl
    have z0 := (hb.cell (p := ⟨w.heap.size + 1, 0, none⟩) (by dsimp only; omega)).trans hc
    clear hc
    simp only [results, Try.f16]
    go_simp

theorem bhas_any (e h : Nat) (d key : ByteArray) (w : World) (he : e ≤ 10) (hh : h ≤ 8) (hd : d.size = 8 * 2 ^ e) :
    Calls Try.prog 16 #[.agg #[.int .i64 ((64 * 2 ^ e : Nat) : Int), .int .i64 h, .string d], .string key] w fun e' w' => e' = .returned (.bool (hasF key (64 * 2 ^ e) h d)) ∧ Below w.heap.size w w' :=
  callsIn_wide.1 (bhas_in e h d key w he hh hd)
end Go.Proofs.Ytingloamfpibaaa
