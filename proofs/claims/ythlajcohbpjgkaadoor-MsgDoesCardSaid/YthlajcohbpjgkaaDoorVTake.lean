/-
  A NUMBER FROM BYTES: the program's Take.
-/
import Derived.Test.YthlajcohbpjgkaaDoorVGrp
import Derived.Test.YthlajcohbpjgkaaDoorLBase
namespace Go.Proofs.YthlajcohbpjgkaaDoor
open Go.RowKit Go.Shelf Go.Proofs.Mem
attribute [local go_sem] Oper.semAt_some
set_option linter.unusedVariables false

theorem groups_stops (Bk : Nat) (s : ByteArray) (w : World) (hz : s.size ≤ 1000000) (hf1 : Bk < w.heap.size) (hBk : w.cell? ⟨Bk, 0, none⟩ = some (.string s)) :
    SeqStopsK Fence.wide 8 Tryd.prog 70 #[.pointer (some ⟨Bk, 0, none⟩)] (encG (s := s)) (CellK Bk) (fun ys => ys = (grpL s 10 0).attach) (fun pre => pre <+: (grpL s 10 0).attach) (grpL s 10 0).length w :=
  fun l J Jx W hB hJ _ hY h0 => groups1_in l Bk s hz J Jx hY W hJ ((hB.cell (p := ⟨Bk, 0, none⟩) hf1).trans hBk) h0

theorem join7 (k a b : Nat) (hk : k ≤ 9) (ha : a < 2 ^ (7 * k)) (hb : b < 128) (h9 : k = 9 → b ≤ 1) : bits .or .u64 (a : Int) (IntKind.u64.wrap ((b : Int) * 2 ^ (7 * k))) = ((a + b * 2 ^ (7 * k) : Nat) : Int) := by
  have e : (b : Int) * 2 ^ (7 * k) = ((b * 2 ^ (7 * k) : Nat) : Int) := by rw [Int.natCast_mul, Int.natCast_pow]; rfl
  have hp := pow63 k hk
  have hx : b * 2 ^ (7 * k) < 18446744073709551616 := by
    by_cases h : k = 9
    · have h3 : b * 2 ^ (7 * k) ≤ 1 * 2 ^ (7 * k) := Nat.mul_le_mul_right _ (h9 h)
      omega
    · have h1 := group_lt b k 0 (by omega) (Nat.two_pow_pos _)
      have h2 := pow63 (k + 1) (by omega)
      have h3 : b % 128 = b := by omega
      rw [h3] at h1
      omega
  have hm : ((b * 2 ^ (7 * k) : Nat) : Int) % 2 ^ (7 * k) = 0 := by
    have := Nat.mul_mod_left b (2 ^ (7 * k))
    exact_mod_cast this
  rw [e, wraps_u64 _ (Int.natCast_nonneg _) (by omega)]
  rw [bits_join_low .u64 64 (by decide) wraps_u64 (7 * k) (a : Int) _ (Int.natCast_nonneg _) (by exact_mod_cast ha) (by omega) (Int.natCast_nonneg _) hm (by omega)]
  omega
theorem ko_set {A B : World} {p : Addr} {v : Value} (h : KeepsOthers A B) : KeepsOthers A (B.setCell p v) := h.trans (KeepsOthers.setCell _ _ _)
theorem ko_drew {A B : World} (h : KeepsOthers A B) : KeepsOthers A B.drew := h.trans (KeepsOthers.drew _)
/-- What lies there between two rounds: the results, the number, how many groups. -/
structure TakeS (X a k : Nat) (W : World) : Prop where
  r0 : W.cell? ⟨X, 0, none⟩ = some (.int .u64 0)
  r1 : W.cell? ⟨X + 1, 0, none⟩ = some (.int .i64 0)
  r2 : W.cell? ⟨X + 1 + 1, 0, none⟩ = some (.int .i64 0)
  cn : W.cell? ⟨X + 1 + 1 + 1, 0, none⟩ = some (.int .u64 (a : Nat))
  ci : W.cell? ⟨X + 1 + 1 + 1 + 1, 0, none⟩ = some (.int .i64 (k : Nat))
  f0 : W.frozen? ⟨X, 0, none⟩ = false
  f1 : W.frozen? ⟨X + 1, 0, none⟩ = false
  f2 : W.frozen? ⟨X + 1 + 1, 0, none⟩ = false
  fn : W.frozen? ⟨X + 1 + 1 + 1, 0, none⟩ = false
  fi : W.frozen? ⟨X + 1 + 1 + 1 + 1, 0, none⟩ = false
theorem TakeS.kept {X a k : Nat} {A B : World} {row : Option Nat} (hs : TakeS X a k A) (hg : A.grownBy B row) (hr : ∀ r, row = some r → ∃ o : Obj, A.heap[r]? = some o ∧ o.isCells = false) : TakeS X a k B :=
  ⟨Go.cell_kept hs.r0 hg hr, Go.cell_kept hs.r1 hg hr, Go.cell_kept hs.r2 hg hr, Go.cell_kept hs.cn hg hr, Go.cell_kept hs.ci hg hr,
    (Go.frozen_kept hs.r0 hg hr).trans hs.f0, (Go.frozen_kept hs.r1 hg hr).trans hs.f1, (Go.frozen_kept hs.r2 hg hr).trans hs.f2, (Go.frozen_kept hs.cn hg hr).trans hs.fn, (Go.frozen_kept hs.ci hg hr).trans hs.fi⟩
/-- The results lie there. -/
structure DoneS (X : Nat) (t : Nat × Nat × Nat) (W : World) : Prop where
  r0 : W.cell? ⟨X, 0, none⟩ = some (.int .u64 (t.1 : Nat))
  r1 : W.cell? ⟨X + 1, 0, none⟩ = some (.int .i64 (t.2.1 : Nat))
  r2 : W.cell? ⟨X + 1 + 1, 0, none⟩ = some (.int .i64 (t.2.2 : Nat))
theorem DoneS.kept {X : Nat} {t : Nat × Nat × Nat} {A B : World} {row : Option Nat} (hs : DoneS X t A) (hg : A.grownBy B row) (hr : ∀ r, row = some r → ∃ o : Obj, A.heap[r]? = some o ∧ o.isCells = false) : DoneS X t B :=
  ⟨Go.cell_kept hs.r0 hg hr, Go.cell_kept hs.r1 hg hr, Go.cell_kept hs.r2 hg hr⟩
/-- The groups' values. -/
def vals {s : ByteArray} (l : List (Grp s)) : List (Nat × Bool) := l.map (·.1)
theorem vals_snoc {s : ByteArray} (l : List (Grp s)) (x : Grp s) : vals (l ++ [x]) = vals l ++ [x.1] := by unfold vals; rw [List.map_append]; rfl
theorem vals_len {s : ByteArray} (l : List (Grp s)) : (vals l).length = l.length := by unfold vals; rw [List.length_map]
theorem vals_lt {s : ByteArray} (l : List (Grp s)) : ∀ q ∈ vals l, q.1 < 128 := by
  intro q hq
  unfold vals at hq
  obtain ⟨x, _, rfl⟩ := List.mem_map.1 hq
  exact grpL_lt s 10 0 _ x.2
theorem vals_all (s : ByteArray) : vals (grpL s 10 0).attach = grpL s 10 0 := List.attach_map_subtype_val _
theorem take_of_run (s : ByteArray) : takeB s = (runL (grpL s 10 0) 0 0).getD (0, 0, 1) := run_take s 9 0 0 rfl

set_option maxRecDepth 100000 in
set_option maxHeartbeats 2000000 in
theorem vtake_in (s : ByteArray) (w : World) (hz : s.size ≤ 1000000) :
    CallsIn Fence.wide 10 Tryd.prog 58 #[.string s] w fun e' w' => e' = .returned (tripV (takeB s)) ∧ Below w.heap.size w w' := by
  refine callsIn_of_wp_marks Tryd.func58 rfl trivial ?_ rfl
  simp only [Tryd.ntmps58, List.size_toArray, List.length_cons, List.length_nil, Nat.reduceAdd, Nat.reduceSub, Array.replicate_succ, Array.replicate_zero, List.push_toArray, List.append_toArray, List.nil_append, List.cons_append]
  refine wpIn_wide.2 ?_
  go_wp2_with (go_at_call 65; refine Calls.mono (groups_any _ _) ?_; rintro e w' ⟨rfl, rfl⟩)
  obtain ⟨W2, hW2⟩ : ∃ W2, ((((((w.alloc (.cells #[.int .u64 0] 54)).alloc (.cells #[.int .i64 0] 3)).alloc (.cells #[.int .i64 0] 24)).alloc (.cells #[.int .u64 0] 54)).alloc (.cells #[.int .i64 0] 3)).alloc (.cells #[.string s] 9)) = W2 := ⟨_, rfl⟩
  have hsz : W2.heap.size = w.heap.size + 6 := by rw [← hW2]; simp only [World.size_alloc]
  have hT0 : TakeS w.heap.size 0 0 W2 := by
    rw [← hW2]; clear hW2 hsz
    exact ⟨by go_simp, by go_simp, by go_simp, by go_simp, by go_simp, by go_simp, by go_simp, by go_simp, by go_simp, by go_simp⟩
  have u3 : W2.cell? ⟨w.heap.size + 1 + 1 + 1 + 1 + 1, 0, none⟩ = some (.string s) := by rw [← hW2]; clear hW2 hsz; go_simp
  have hB2 : Below w.heap.size w W2 := by rw [← hW2]; clear hW2 hsz; go_grown
  rw [hW2]
  clear hW2
  refine (wpIn_wide (n := 9)).1 ?_
  refine wpIn_rangeFunc_ownF rfl (by omega) (gf := 70) (lb := #[.pointer (some ⟨w.heap.size + 1 + 1 + 1 + 1 + 1, 0, none⟩)]) rfl trivial (enters_of Tryd.func70 (by kernel_rfl) rfl)
    (groups_stops (w.heap.size + 1 + 1 + 1 + 1 + 1) s W2 hz (by omega) u3) (fun h k => cellK_t h k) (cellK_b (by omega)) (Below.refl _ _) (fun _ => rfl)
    (fun pre W => TakeS w.heap.size (accL (vals pre) 0 0) pre.length W ∧ (Below w.heap.size w W ∧ runL (vals pre) 0 0 = none))
    (fun c pre W => (∃ t, runL (vals pre) 0 0 = some t ∧ DoneS w.heap.size t W) ∧ (Below w.heap.size w W ∧ c = .ret))
    (OwnFrom.and (show OwnFrom W2.heap.size (fun (pre : List (Grp s)) W => TakeS w.heap.size (accL (vals pre) 0 0) pre.length W) from Own.from (fun p A B row (hs : TakeS w.heap.size (accL (vals p) 0 0) p.length A) hg hr => (TakeS.kept hs hg hr : TakeS w.heap.size (accL (vals p) 0 0) p.length B)) _) (OwnFrom.and (ownFrom_below (Nat.le_refl _) (by omega)) (ownFrom_pure _ _)))
    (fun c => OwnFrom.and (show OwnFrom W2.heap.size (fun (pre : List (Grp s)) W => ∃ t, runL (vals pre) 0 0 = some t ∧ DoneS w.heap.size t W) from Own.from (fun p A B row (hs : ∃ t, runL (vals p) 0 0 = some t ∧ DoneS w.heap.size t A) hg hr => (⟨hs.choose, hs.choose_spec.1, DoneS.kept hs.choose_spec.2 hg hr⟩ : ∃ t, runL (vals p) 0 0 = some t ∧ DoneS w.heap.size t B)) _) (OwnFrom.and (ownFrom_below (Nat.le_refl _) (by omega)) (ownFrom_pure _ _)))
    ⟨hT0, hB2, rfl⟩
    (fun x => { tmps := #[.string s, undef, .pointer (some ⟨w.heap.size, 0, none⟩), .pointer (some ⟨w.heap.size + 1, 0, none⟩), .pointer (some ⟨w.heap.size + 1 + 1, 0, none⟩), .pointer (some ⟨w.heap.size + 1 + 1 + 1, 0, none⟩), .pointer (some ⟨w.heap.size + 1 + 1 + 1 + 1, 0, none⟩), .int .u64 (x.1.1 : Nat), .bool x.1.2, .string s,
      .func (.func 70) #[] #[.pointer (some ⟨w.heap.size + 1 + 1 + 1 + 1 + 1, 0, none⟩)], .int .u64 (x.1.1 : Nat), .bool x.1.2, undef, undef, undef, undef, undef, undef, undef, undef, undef, undef, undef, undef, undef, undef, undef, undef, undef, undef, undef, undef, undef, undef, undef, undef, undef, undef, undef, undef], defers := [] }) ?assign ?body ?done ?stop
  case assign =>
    intro l x W K hK
    simp only [encG]
    gi_wp2
    exact hK
  case body =>
    rintro l pre x W ⟨hS, hB, hrun⟩ hlen
    have hk9 : pre.length ≤ 9 := by have := grpL_len s 10 0; omega
    have hvs := vals_snoc pre x
    have hsn := runL_snoc (vals pre) x.1 0 0
    rw [hrun, Nat.zero_add, vals_len] at hsn
    have hac := accL_snoc (vals pre) x.1 0 0
    rw [Nat.zero_add, vals_len] at hac
    have hal := accL_lt (vals pre) 0 0 (vals_lt pre) (by decide)
    rw [Nat.zero_add, vals_len] at hal
    have hb8 : x.1.1 < 128 := grpL_lt s 10 0 _ x.2
    obtain ⟨a, ha⟩ : ∃ a, a = accL (vals pre) 0 0 := ⟨_, rfl⟩
    obtain ⟨k, hk⟩ : ∃ k, k = pre.length := ⟨_, rfl⟩
    rw [← ha, ← hk] at hS
    rw [← ha, ← hk] at hsn
    rw [← ha, ← hk] at hac
    rw [← ha, ← hk] at hal
    rw [← hk] at hk9
    have hxx : x.1 = (x.1.1, x.1.2) := rfl
    rw [hxx] at hvs hsn hac
    generalize x.1.1 = b at *
    generalize x.1.2 = last at *
    dsimp only at hsn hac
    rw [runL] at hsn
    have HVS := Lib.hid hvs
    have HAC := Lib.hid hac
    have HAL := Lib.hid hal
    have HB := Lib.hid hB
    have HK := Lib.hid hk
    obtain ⟨r0, r1, r2, cn, ci, f0, f1, f2, fn, fi⟩ := hS
    clear hvs hac hal hB ha hrun hlen hT0 u3 hxx hk
    by_cases h9 : k = 9 ∧ (1 < b ∨ last = false)
    · rw [if_pos h9] at hsn
      have HO := Lib.hid hsn
      obtain ⟨hk, hbl⟩ := h9
      have e9 : ((k : Int) == 9) = true := beq_iff_eq.2 (by omega)
      clear hsn
      by_cases hb1 : 1 < b
      · have d1 : decide ((1 : Int) < (b : Int)) = true := decide_eq_true (by omega)
        have d2 : decide (1 < b) = true := decide_eq_true hb1
        clear hk hbl hb1
        gi_wp2
        exact ⟨((KeepsOthers.setCell _ _ _).trans (KeepsOthers.setCell _ _ _)).trans (KeepsOthers.setCell _ _ _), ⟨(0, 0, 4), by rw [HVS.out, HO.out], ⟨by go_simp, by go_simp, by go_simp⟩⟩, (((HB.out.setCell (p := ⟨w.heap.size, 0, none⟩) (Nat.le_refl _) _).setCell (p := ⟨w.heap.size + 1, 0, none⟩) (Nat.le_succ _) _).setCell (p := ⟨w.heap.size + 1 + 1, 0, none⟩) (by dsimp only; omega) _), rfl⟩
      · have d1 : decide ((1 : Int) < (b : Int)) = false := decide_eq_false (by omega)
        have d2 : decide (1 < b) = false := decide_eq_false hb1
        obtain rfl : last = false := by rcases hbl with h | h; · exact absurd h hb1
                                        · exact h
        clear hk hbl hb1
        gi_wp2
        exact ⟨((KeepsOthers.setCell _ _ _).trans (KeepsOthers.setCell _ _ _)).trans (KeepsOthers.setCell _ _ _), ⟨(0, 0, 4), by rw [HVS.out, HO.out], ⟨by go_simp, by go_simp, by go_simp⟩⟩, (((HB.out.setCell (p := ⟨w.heap.size, 0, none⟩) (Nat.le_refl _) _).setCell (p := ⟨w.heap.size + 1, 0, none⟩) (Nat.le_succ _) _).setCell (p := ⟨w.heap.size + 1 + 1, 0, none⟩) (by dsimp only; omega) _), rfl⟩
    · rw [if_neg h9] at hsn
      have HO := Lib.hid hsn
      have H9 := Lib.hid h9
      have hor : ((k : Int) == 9) = false ∨ ((k : Int) == 9) = true ∧ decide ((1 : Int) < (b : Int)) = false ∧ decide (1 < b) = false ∧ last = true := by
        by_cases h : k = 9
        · refine .inr ⟨beq_iff_eq.2 (by omega), decide_eq_false ?_, decide_eq_false ?_, ?_⟩
          · intro hh; exact h9 ⟨h, .inl (by omega)⟩
          · intro hh; exact h9 ⟨h, .inl hh⟩
          · cases last with
            | true => rfl
            | false => exact absurd ⟨h, .inr rfl⟩ h9
        · exact .inl (beq_eq_false_iff_ne.2 (by omega))
      have hjn := join7 k a b hk9 HAL.out hb8 (by intro h; rcases Nat.lt_or_ge 1 b with hb | hb; · exact absurd ⟨h, .inl hb⟩ h9
                                                  · exact hb)
      obtain ⟨a', ha'⟩ : ∃ a', a' = a + b * 2 ^ (7 * k) := ⟨_, rfl⟩
      rw [← ha'] at hjn hsn
      have HJT : Hid (bits .or .u64 (a : Int) (IntKind.u64.wrap ((b : Int) * 2 ^ (7 * (k : Int)).toNat)) = ((a' : Nat) : Int)) := Lib.hid (by rw [show (7 * (k : Int)).toNat = 7 * k from by omega]; exact hjn)
      have hac2 := HAC.out
      rw [← ha'] at hac2
      have HAC2 := Lib.hid hac2
      have hw7 : IntKind.i64.wrap (7 * (k : Int)) = ((7 * k : Nat) : Int) := by rw [IntWalk.i64_in _ (by omega)]; omega
      have hw8 : IntKind.i64.wrap ((k : Int) + 1) = (k : Int) + 1 := IntWalk.i64_in _ (by omega)
      have HO := Lib.hid hsn
      clear hsn h9 hac2 ha' HAL HAC H9
      rcases hor with e9 | ⟨e9, d1, d2, rfl⟩
      · gi_wp2
        refine wpIn_mono (Q := fun e a1 w1 => e = .normal ∧ (∃ v11 v12 v13 v14 v15 v16 v17 v18 v19 v20 v21 v22 v23 v24 v25 v26 v27 v28, a1 = ({ tmps := #[.string s, undef, .pointer (some ⟨w.heap.size, 0, none⟩), .pointer (some ⟨w.heap.size + 1, 0, none⟩), .pointer (some ⟨w.heap.size + 1 + 1, 0, none⟩), .pointer (some ⟨w.heap.size + 1 + 1 + 1, 0, none⟩), .pointer (some ⟨w.heap.size + 1 + 1 + 1 + 1, 0, none⟩), .int .u64 (b : Nat), .bool last, .string s, .func (.func 70) #[] #[.pointer (some ⟨w.heap.size + 1 + 1 + 1 + 1 + 1, 0, none⟩)], v11, v12, v13, v14, v15, v16, v17, v18, v19, v20, v21, v22, v23, v24, v25, v26, v27, v28, undef, undef, undef, undef, undef, undef, undef, undef, undef, undef, undef, undef], defers := [] } : Act)) ∧ w1 = (W.setCell ⟨w.heap.size + 1 + 1 + 1, 0, none⟩ (.int .u64 (a' : Nat))).drew) ?_ ?_
        · refine wpIn_region_any (by kernel_rfl) ?_
          change wpAnyIn _ _ _ _ _ _ 7 _ _ _
          refine wpAnyIn_ready (rs := [0, 1, 2]) (by kernel_rfl) (by simp) ?_
          refine AllReadyIn.cons rfl (fun K hK => ?_) ?_
          · rw [if_pos (by kernel_rfl)]
            go_simp
            refine hK _ _ ?_
            clear hK K
            refine wpAnyIn_ready (rs := [1, 2]) (by kernel_rfl) (by simp) ?_
            refine AllReadyIn.cons rfl (fun K hK => ?_) ?_
            · rw [if_pos (by kernel_rfl)]
              go_simp
              refine hK _ _ ?_
              clear hK K
              refine wpAnyIn_ready (rs := [2]) (by kernel_rfl) (by simp) ?_
              refine AllReadyIn.cons rfl (fun K hK => ?_) AllReadyIn.nil
              · rw [if_pos (by kernel_rfl)]
                go_simp
                refine hK _ _ ?_
                clear hK K
                refine wpAnyIn_ready (rs := [3]) (by kernel_rfl) (by simp) ?_
                refine AllReadyIn.cons rfl (fun K hK => ?_) AllReadyIn.nil
                · rw [if_pos (by kernel_rfl)]
                  go_simp
                  refine hK _ _ ?_
                  clear hK K
                  refine wpAnyIn_ready (rs := [4]) (by kernel_rfl) (by simp) ?_
                  refine AllReadyIn.cons rfl (fun K hK => ?_) AllReadyIn.nil
                  · rw [if_pos (by kernel_rfl)]
                    go_simp
                    refine hK _ _ ?_
                    clear hK K
                    refine wpAnyIn_ready (rs := [5]) (by kernel_rfl) (by simp) ?_
                    refine AllReadyIn.cons rfl (fun K hK => ?_) AllReadyIn.nil
                    · rw [if_pos (by kernel_rfl)]
                      go_simp
                      refine hK _ _ ?_
                      clear hK K
                      refine wpAnyIn_ready (rs := [6]) (by kernel_rfl) (by simp) ?_
                      refine AllReadyIn.cons rfl (fun K hK => ?_) AllReadyIn.nil
                      · rw [if_pos (by kernel_rfl)]
                        go_simp
                        refine hK _ _ ?_
                        clear hK K
                        refine wpAnyIn_done (by kernel_rfl) ?_ _
                        exact ⟨rfl, ⟨_, _, _, _, _, _, _, _, _, _, _, _, _, _, _, _, _, _, rfl⟩, by first | rfl | rw [HJT.out]⟩
            refine AllReadyIn.cons rfl (fun K hK => ?_) AllReadyIn.nil
            · rw [if_pos (by kernel_rfl)]
              go_simp
              refine hK _ _ ?_
              clear hK K
              refine wpAnyIn_ready (rs := [1, 3]) (by kernel_rfl) (by simp) ?_
              refine AllReadyIn.cons rfl (fun K hK => ?_) ?_
              · rw [if_pos (by kernel_rfl)]
                go_simp
                refine hK _ _ ?_
                clear hK K
                refine wpAnyIn_ready (rs := [3]) (by kernel_rfl) (by simp) ?_
                refine AllReadyIn.cons rfl (fun K hK => ?_) AllReadyIn.nil
                · rw [if_pos (by kernel_rfl)]
                  go_simp
                  refine hK _ _ ?_
                  clear hK K
                  refine wpAnyIn_ready (rs := [4]) (by kernel_rfl) (by simp) ?_
                  refine AllReadyIn.cons rfl (fun K hK => ?_) AllReadyIn.nil
                  · rw [if_pos (by kernel_rfl)]
                    go_simp
                    refine hK _ _ ?_
                    clear hK K
                    refine wpAnyIn_ready (rs := [5]) (by kernel_rfl) (by simp) ?_
                    refine AllReadyIn.cons rfl (fun K hK => ?_) AllReadyIn.nil
                    · rw [if_pos (by kernel_rfl)]
                      go_simp
                      refine hK _ _ ?_
                      clear hK K
                      refine wpAnyIn_ready (rs := [6]) (by kernel_rfl) (by simp) ?_
                      refine AllReadyIn.cons rfl (fun K hK => ?_) AllReadyIn.nil
                      · rw [if_pos (by kernel_rfl)]
                        go_simp
                        refine hK _ _ ?_
                        clear hK K
                        refine wpAnyIn_done (by kernel_rfl) ?_ _
                        exact ⟨rfl, ⟨_, _, _, _, _, _, _, _, _, _, _, _, _, _, _, _, _, _, rfl⟩, by first | rfl | rw [HJT.out]⟩
              refine AllReadyIn.cons rfl (fun K hK => ?_) AllReadyIn.nil
              · rw [if_pos (by kernel_rfl)]
                go_simp
                refine hK _ _ ?_
                clear hK K
                refine wpAnyIn_ready (rs := [1]) (by kernel_rfl) (by simp) ?_
                refine AllReadyIn.cons rfl (fun K hK => ?_) AllReadyIn.nil
                · rw [if_pos (by kernel_rfl)]
                  go_simp
                  refine hK _ _ ?_
                  clear hK K
                  refine wpAnyIn_ready (rs := [4]) (by kernel_rfl) (by simp) ?_
                  refine AllReadyIn.cons rfl (fun K hK => ?_) AllReadyIn.nil
                  · rw [if_pos (by kernel_rfl)]
                    go_simp
                    refine hK _ _ ?_
                    clear hK K
                    refine wpAnyIn_ready (rs := [5]) (by kernel_rfl) (by simp) ?_
                    refine AllReadyIn.cons rfl (fun K hK => ?_) AllReadyIn.nil
                    · rw [if_pos (by kernel_rfl)]
                      go_simp
                      refine hK _ _ ?_
                      clear hK K
                      refine wpAnyIn_ready (rs := [6]) (by kernel_rfl) (by simp) ?_
                      refine AllReadyIn.cons rfl (fun K hK => ?_) AllReadyIn.nil
                      · rw [if_pos (by kernel_rfl)]
                        go_simp
                        refine hK _ _ ?_
                        clear hK K
                        refine wpAnyIn_done (by kernel_rfl) ?_ _
                        exact ⟨rfl, ⟨_, _, _, _, _, _, _, _, _, _, _, _, _, _, _, _, _, _, rfl⟩, by first | rfl | rw [HJT.out]⟩
          refine AllReadyIn.cons rfl (fun K hK => ?_) ?_
          · rw [if_pos (by kernel_rfl)]
            go_simp
            refine hK _ _ ?_
            clear hK K
            refine wpAnyIn_ready (rs := [0, 2]) (by kernel_rfl) (by simp) ?_
            refine AllReadyIn.cons rfl (fun K hK => ?_) ?_
            · rw [if_pos (by kernel_rfl)]
              go_simp
              refine hK _ _ ?_
              clear hK K
              refine wpAnyIn_ready (rs := [2]) (by kernel_rfl) (by simp) ?_
              refine AllReadyIn.cons rfl (fun K hK => ?_) AllReadyIn.nil
              · rw [if_pos (by kernel_rfl)]
                go_simp
                refine hK _ _ ?_
                clear hK K
                refine wpAnyIn_ready (rs := [3]) (by kernel_rfl) (by simp) ?_
                refine AllReadyIn.cons rfl (fun K hK => ?_) AllReadyIn.nil
                · rw [if_pos (by kernel_rfl)]
                  go_simp
                  refine hK _ _ ?_
                  clear hK K
                  refine wpAnyIn_ready (rs := [4]) (by kernel_rfl) (by simp) ?_
                  refine AllReadyIn.cons rfl (fun K hK => ?_) AllReadyIn.nil
                  · rw [if_pos (by kernel_rfl)]
                    go_simp
                    refine hK _ _ ?_
                    clear hK K
                    refine wpAnyIn_ready (rs := [5]) (by kernel_rfl) (by simp) ?_
                    refine AllReadyIn.cons rfl (fun K hK => ?_) AllReadyIn.nil
                    · rw [if_pos (by kernel_rfl)]
                      go_simp
                      refine hK _ _ ?_
                      clear hK K
                      refine wpAnyIn_ready (rs := [6]) (by kernel_rfl) (by simp) ?_
                      refine AllReadyIn.cons rfl (fun K hK => ?_) AllReadyIn.nil
                      · rw [if_pos (by kernel_rfl)]
                        go_simp
                        refine hK _ _ ?_
                        clear hK K
                        refine wpAnyIn_done (by kernel_rfl) ?_ _
                        exact ⟨rfl, ⟨_, _, _, _, _, _, _, _, _, _, _, _, _, _, _, _, _, _, rfl⟩, by first | rfl | rw [HJT.out]⟩
            refine AllReadyIn.cons rfl (fun K hK => ?_) AllReadyIn.nil
            · rw [if_pos (by kernel_rfl)]
              go_simp
              refine hK _ _ ?_
              clear hK K
              refine wpAnyIn_ready (rs := [0, 3]) (by kernel_rfl) (by simp) ?_
              refine AllReadyIn.cons rfl (fun K hK => ?_) ?_
              · rw [if_pos (by kernel_rfl)]
                go_simp
                refine hK _ _ ?_
                clear hK K
                refine wpAnyIn_ready (rs := [3]) (by kernel_rfl) (by simp) ?_
                refine AllReadyIn.cons rfl (fun K hK => ?_) AllReadyIn.nil
                · rw [if_pos (by kernel_rfl)]
                  go_simp
                  refine hK _ _ ?_
                  clear hK K
                  refine wpAnyIn_ready (rs := [4]) (by kernel_rfl) (by simp) ?_
                  refine AllReadyIn.cons rfl (fun K hK => ?_) AllReadyIn.nil
                  · rw [if_pos (by kernel_rfl)]
                    go_simp
                    refine hK _ _ ?_
                    clear hK K
                    refine wpAnyIn_ready (rs := [5]) (by kernel_rfl) (by simp) ?_
                    refine AllReadyIn.cons rfl (fun K hK => ?_) AllReadyIn.nil
                    · rw [if_pos (by kernel_rfl)]
                      go_simp
                      refine hK _ _ ?_
                      clear hK K
                      refine wpAnyIn_ready (rs := [6]) (by kernel_rfl) (by simp) ?_
                      refine AllReadyIn.cons rfl (fun K hK => ?_) AllReadyIn.nil
                      · rw [if_pos (by kernel_rfl)]
                        go_simp
                        refine hK _ _ ?_
                        clear hK K
                        refine wpAnyIn_done (by kernel_rfl) ?_ _
                        exact ⟨rfl, ⟨_, _, _, _, _, _, _, _, _, _, _, _, _, _, _, _, _, _, rfl⟩, by first | rfl | rw [HJT.out]⟩
              refine AllReadyIn.cons rfl (fun K hK => ?_) AllReadyIn.nil
              · rw [if_pos (by kernel_rfl)]
                go_simp
                refine hK _ _ ?_
                clear hK K
                refine wpAnyIn_ready (rs := [0, 4]) (by kernel_rfl) (by simp) ?_
                refine AllReadyIn.cons rfl (fun K hK => ?_) ?_
                · rw [if_pos (by kernel_rfl)]
                  go_simp
                  refine hK _ _ ?_
                  clear hK K
                  refine wpAnyIn_ready (rs := [4]) (by kernel_rfl) (by simp) ?_
                  refine AllReadyIn.cons rfl (fun K hK => ?_) AllReadyIn.nil
                  · rw [if_pos (by kernel_rfl)]
                    go_simp
                    refine hK _ _ ?_
                    clear hK K
                    refine wpAnyIn_ready (rs := [5]) (by kernel_rfl) (by simp) ?_
                    refine AllReadyIn.cons rfl (fun K hK => ?_) AllReadyIn.nil
                    · rw [if_pos (by kernel_rfl)]
                      go_simp
                      refine hK _ _ ?_
                      clear hK K
                      refine wpAnyIn_ready (rs := [6]) (by kernel_rfl) (by simp) ?_
                      refine AllReadyIn.cons rfl (fun K hK => ?_) AllReadyIn.nil
                      · rw [if_pos (by kernel_rfl)]
                        go_simp
                        refine hK _ _ ?_
                        clear hK K
                        refine wpAnyIn_done (by kernel_rfl) ?_ _
                        exact ⟨rfl, ⟨_, _, _, _, _, _, _, _, _, _, _, _, _, _, _, _, _, _, rfl⟩, by first | rfl | rw [HJT.out]⟩
                refine AllReadyIn.cons rfl (fun K hK => ?_) AllReadyIn.nil
                · rw [if_pos (by kernel_rfl)]
                  go_simp
                  refine hK _ _ ?_
                  clear hK K
                  refine wpAnyIn_ready (rs := [0]) (by kernel_rfl) (by simp) ?_
                  refine AllReadyIn.cons rfl (fun K hK => ?_) AllReadyIn.nil
                  · rw [if_pos (by kernel_rfl)]
                    go_simp
                    refine hK _ _ ?_
                    clear hK K
                    refine wpAnyIn_ready (rs := [5]) (by kernel_rfl) (by simp) ?_
                    refine AllReadyIn.cons rfl (fun K hK => ?_) AllReadyIn.nil
                    · rw [if_pos (by kernel_rfl)]
                      go_simp
                      refine hK _ _ ?_
                      clear hK K
                      refine wpAnyIn_ready (rs := [6]) (by kernel_rfl) (by simp) ?_
                      refine AllReadyIn.cons rfl (fun K hK => ?_) AllReadyIn.nil
                      · rw [if_pos (by kernel_rfl)]
                        go_simp
                        refine hK _ _ ?_
                        clear hK K
                        refine wpAnyIn_done (by kernel_rfl) ?_ _
                        exact ⟨rfl, ⟨_, _, _, _, _, _, _, _, _, _, _, _, _, _, _, _, _, _, rfl⟩, by first | rfl | rw [HJT.out]⟩
          refine AllReadyIn.cons rfl (fun K hK => ?_) AllReadyIn.nil
          · rw [if_pos (by kernel_rfl)]
            go_simp
            refine hK _ _ ?_
            clear hK K
            refine wpAnyIn_ready (rs := [0, 1, 3]) (by kernel_rfl) (by simp) ?_
            refine AllReadyIn.cons rfl (fun K hK => ?_) ?_
            · rw [if_pos (by kernel_rfl)]
              go_simp
              refine hK _ _ ?_
              clear hK K
              refine wpAnyIn_ready (rs := [1, 3]) (by kernel_rfl) (by simp) ?_
              refine AllReadyIn.cons rfl (fun K hK => ?_) ?_
              · rw [if_pos (by kernel_rfl)]
                go_simp
                refine hK _ _ ?_
                clear hK K
                refine wpAnyIn_ready (rs := [3]) (by kernel_rfl) (by simp) ?_
                refine AllReadyIn.cons rfl (fun K hK => ?_) AllReadyIn.nil
                · rw [if_pos (by kernel_rfl)]
                  go_simp
                  refine hK _ _ ?_
                  clear hK K
                  refine wpAnyIn_ready (rs := [4]) (by kernel_rfl) (by simp) ?_
                  refine AllReadyIn.cons rfl (fun K hK => ?_) AllReadyIn.nil
                  · rw [if_pos (by kernel_rfl)]
                    go_simp
                    refine hK _ _ ?_
                    clear hK K
                    refine wpAnyIn_ready (rs := [5]) (by kernel_rfl) (by simp) ?_
                    refine AllReadyIn.cons rfl (fun K hK => ?_) AllReadyIn.nil
                    · rw [if_pos (by kernel_rfl)]
                      go_simp
                      refine hK _ _ ?_
                      clear hK K
                      refine wpAnyIn_ready (rs := [6]) (by kernel_rfl) (by simp) ?_
                      refine AllReadyIn.cons rfl (fun K hK => ?_) AllReadyIn.nil
                      · rw [if_pos (by kernel_rfl)]
                        go_simp
                        refine hK _ _ ?_
                        clear hK K
                        refine wpAnyIn_done (by kernel_rfl) ?_ _
                        exact ⟨rfl, ⟨_, _, _, _, _, _, _, _, _, _, _, _, _, _, _, _, _, _, rfl⟩, by first | rfl | rw [HJT.out]⟩
              refine AllReadyIn.cons rfl (fun K hK => ?_) AllReadyIn.nil
              · rw [if_pos (by kernel_rfl)]
                go_simp
                refine hK _ _ ?_
                clear hK K
                refine wpAnyIn_ready (rs := [1]) (by kernel_rfl) (by simp) ?_
                refine AllReadyIn.cons rfl (fun K hK => ?_) AllReadyIn.nil
                · rw [if_pos (by kernel_rfl)]
                  go_simp
                  refine hK _ _ ?_
                  clear hK K
                  refine wpAnyIn_ready (rs := [4]) (by kernel_rfl) (by simp) ?_
                  refine AllReadyIn.cons rfl (fun K hK => ?_) AllReadyIn.nil
                  · rw [if_pos (by kernel_rfl)]
                    go_simp
                    refine hK _ _ ?_
                    clear hK K
                    refine wpAnyIn_ready (rs := [5]) (by kernel_rfl) (by simp) ?_
                    refine AllReadyIn.cons rfl (fun K hK => ?_) AllReadyIn.nil
                    · rw [if_pos (by kernel_rfl)]
                      go_simp
                      refine hK _ _ ?_
                      clear hK K
                      refine wpAnyIn_ready (rs := [6]) (by kernel_rfl) (by simp) ?_
                      refine AllReadyIn.cons rfl (fun K hK => ?_) AllReadyIn.nil
                      · rw [if_pos (by kernel_rfl)]
                        go_simp
                        refine hK _ _ ?_
                        clear hK K
                        refine wpAnyIn_done (by kernel_rfl) ?_ _
                        exact ⟨rfl, ⟨_, _, _, _, _, _, _, _, _, _, _, _, _, _, _, _, _, _, rfl⟩, by first | rfl | rw [HJT.out]⟩
            refine AllReadyIn.cons rfl (fun K hK => ?_) ?_
            · rw [if_pos (by kernel_rfl)]
              go_simp
              refine hK _ _ ?_
              clear hK K
              refine wpAnyIn_ready (rs := [0, 3]) (by kernel_rfl) (by simp) ?_
              refine AllReadyIn.cons rfl (fun K hK => ?_) ?_
              · rw [if_pos (by kernel_rfl)]
                go_simp
                refine hK _ _ ?_
                clear hK K
                refine wpAnyIn_ready (rs := [3]) (by kernel_rfl) (by simp) ?_
                refine AllReadyIn.cons rfl (fun K hK => ?_) AllReadyIn.nil
                · rw [if_pos (by kernel_rfl)]
                  go_simp
                  refine hK _ _ ?_
                  clear hK K
                  refine wpAnyIn_ready (rs := [4]) (by kernel_rfl) (by simp) ?_
                  refine AllReadyIn.cons rfl (fun K hK => ?_) AllReadyIn.nil
                  · rw [if_pos (by kernel_rfl)]
                    go_simp
                    refine hK _ _ ?_
                    clear hK K
                    refine wpAnyIn_ready (rs := [5]) (by kernel_rfl) (by simp) ?_
                    refine AllReadyIn.cons rfl (fun K hK => ?_) AllReadyIn.nil
                    · rw [if_pos (by kernel_rfl)]
                      go_simp
                      refine hK _ _ ?_
                      clear hK K
                      refine wpAnyIn_ready (rs := [6]) (by kernel_rfl) (by simp) ?_
                      refine AllReadyIn.cons rfl (fun K hK => ?_) AllReadyIn.nil
                      · rw [if_pos (by kernel_rfl)]
                        go_simp
                        refine hK _ _ ?_
                        clear hK K
                        refine wpAnyIn_done (by kernel_rfl) ?_ _
                        exact ⟨rfl, ⟨_, _, _, _, _, _, _, _, _, _, _, _, _, _, _, _, _, _, rfl⟩, by first | rfl | rw [HJT.out]⟩
              refine AllReadyIn.cons rfl (fun K hK => ?_) AllReadyIn.nil
              · rw [if_pos (by kernel_rfl)]
                go_simp
                refine hK _ _ ?_
                clear hK K
                refine wpAnyIn_ready (rs := [0, 4]) (by kernel_rfl) (by simp) ?_
                refine AllReadyIn.cons rfl (fun K hK => ?_) ?_
                · rw [if_pos (by kernel_rfl)]
                  go_simp
                  refine hK _ _ ?_
                  clear hK K
                  refine wpAnyIn_ready (rs := [4]) (by kernel_rfl) (by simp) ?_
                  refine AllReadyIn.cons rfl (fun K hK => ?_) AllReadyIn.nil
                  · rw [if_pos (by kernel_rfl)]
                    go_simp
                    refine hK _ _ ?_
                    clear hK K
                    refine wpAnyIn_ready (rs := [5]) (by kernel_rfl) (by simp) ?_
                    refine AllReadyIn.cons rfl (fun K hK => ?_) AllReadyIn.nil
                    · rw [if_pos (by kernel_rfl)]
                      go_simp
                      refine hK _ _ ?_
                      clear hK K
                      refine wpAnyIn_ready (rs := [6]) (by kernel_rfl) (by simp) ?_
                      refine AllReadyIn.cons rfl (fun K hK => ?_) AllReadyIn.nil
                      · rw [if_pos (by kernel_rfl)]
                        go_simp
                        refine hK _ _ ?_
                        clear hK K
                        refine wpAnyIn_done (by kernel_rfl) ?_ _
                        exact ⟨rfl, ⟨_, _, _, _, _, _, _, _, _, _, _, _, _, _, _, _, _, _, rfl⟩, by first | rfl | rw [HJT.out]⟩
                refine AllReadyIn.cons rfl (fun K hK => ?_) AllReadyIn.nil
                · rw [if_pos (by kernel_rfl)]
                  go_simp
                  refine hK _ _ ?_
                  clear hK K
                  refine wpAnyIn_ready (rs := [0]) (by kernel_rfl) (by simp) ?_
                  refine AllReadyIn.cons rfl (fun K hK => ?_) AllReadyIn.nil
                  · rw [if_pos (by kernel_rfl)]
                    go_simp
                    refine hK _ _ ?_
                    clear hK K
                    refine wpAnyIn_ready (rs := [5]) (by kernel_rfl) (by simp) ?_
                    refine AllReadyIn.cons rfl (fun K hK => ?_) AllReadyIn.nil
                    · rw [if_pos (by kernel_rfl)]
                      go_simp
                      refine hK _ _ ?_
                      clear hK K
                      refine wpAnyIn_ready (rs := [6]) (by kernel_rfl) (by simp) ?_
                      refine AllReadyIn.cons rfl (fun K hK => ?_) AllReadyIn.nil
                      · rw [if_pos (by kernel_rfl)]
                        go_simp
                        refine hK _ _ ?_
                        clear hK K
                        refine wpAnyIn_done (by kernel_rfl) ?_ _
                        exact ⟨rfl, ⟨_, _, _, _, _, _, _, _, _, _, _, _, _, _, _, _, _, _, rfl⟩, by first | rfl | rw [HJT.out]⟩
            refine AllReadyIn.cons rfl (fun K hK => ?_) AllReadyIn.nil
            · rw [if_pos (by kernel_rfl)]
              go_simp
              refine hK _ _ ?_
              clear hK K
              refine wpAnyIn_ready (rs := [0, 1]) (by kernel_rfl) (by simp) ?_
              refine AllReadyIn.cons rfl (fun K hK => ?_) ?_
              · rw [if_pos (by kernel_rfl)]
                go_simp
                refine hK _ _ ?_
                clear hK K
                refine wpAnyIn_ready (rs := [1]) (by kernel_rfl) (by simp) ?_
                refine AllReadyIn.cons rfl (fun K hK => ?_) AllReadyIn.nil
                · rw [if_pos (by kernel_rfl)]
                  go_simp
                  refine hK _ _ ?_
                  clear hK K
                  refine wpAnyIn_ready (rs := [4]) (by kernel_rfl) (by simp) ?_
                  refine AllReadyIn.cons rfl (fun K hK => ?_) AllReadyIn.nil
                  · rw [if_pos (by kernel_rfl)]
                    go_simp
                    refine hK _ _ ?_
                    clear hK K
                    refine wpAnyIn_ready (rs := [5]) (by kernel_rfl) (by simp) ?_
                    refine AllReadyIn.cons rfl (fun K hK => ?_) AllReadyIn.nil
                    · rw [if_pos (by kernel_rfl)]
                      go_simp
                      refine hK _ _ ?_
                      clear hK K
                      refine wpAnyIn_ready (rs := [6]) (by kernel_rfl) (by simp) ?_
                      refine AllReadyIn.cons rfl (fun K hK => ?_) AllReadyIn.nil
                      · rw [if_pos (by kernel_rfl)]
                        go_simp
                        refine hK _ _ ?_
                        clear hK K
                        refine wpAnyIn_done (by kernel_rfl) ?_ _
                        exact ⟨rfl, ⟨_, _, _, _, _, _, _, _, _, _, _, _, _, _, _, _, _, _, rfl⟩, by first | rfl | rw [HJT.out]⟩
              refine AllReadyIn.cons rfl (fun K hK => ?_) AllReadyIn.nil
              · rw [if_pos (by kernel_rfl)]
                go_simp
                refine hK _ _ ?_
                clear hK K
                refine wpAnyIn_ready (rs := [0, 4]) (by kernel_rfl) (by simp) ?_
                refine AllReadyIn.cons rfl (fun K hK => ?_) ?_
                · rw [if_pos (by kernel_rfl)]
                  go_simp
                  refine hK _ _ ?_
                  clear hK K
                  refine wpAnyIn_ready (rs := [4]) (by kernel_rfl) (by simp) ?_
                  refine AllReadyIn.cons rfl (fun K hK => ?_) AllReadyIn.nil
                  · rw [if_pos (by kernel_rfl)]
                    go_simp
                    refine hK _ _ ?_
                    clear hK K
                    refine wpAnyIn_ready (rs := [5]) (by kernel_rfl) (by simp) ?_
                    refine AllReadyIn.cons rfl (fun K hK => ?_) AllReadyIn.nil
                    · rw [if_pos (by kernel_rfl)]
                      go_simp
                      refine hK _ _ ?_
                      clear hK K
                      refine wpAnyIn_ready (rs := [6]) (by kernel_rfl) (by simp) ?_
                      refine AllReadyIn.cons rfl (fun K hK => ?_) AllReadyIn.nil
                      · rw [if_pos (by kernel_rfl)]
                        go_simp
                        refine hK _ _ ?_
                        clear hK K
                        refine wpAnyIn_done (by kernel_rfl) ?_ _
                        exact ⟨rfl, ⟨_, _, _, _, _, _, _, _, _, _, _, _, _, _, _, _, _, _, rfl⟩, by first | rfl | rw [HJT.out]⟩
                refine AllReadyIn.cons rfl (fun K hK => ?_) AllReadyIn.nil
                · rw [if_pos (by kernel_rfl)]
                  go_simp
                  refine hK _ _ ?_
                  clear hK K
                  refine wpAnyIn_ready (rs := [0]) (by kernel_rfl) (by simp) ?_
                  refine AllReadyIn.cons rfl (fun K hK => ?_) AllReadyIn.nil
                  · rw [if_pos (by kernel_rfl)]
                    go_simp
                    refine hK _ _ ?_
                    clear hK K
                    refine wpAnyIn_ready (rs := [5]) (by kernel_rfl) (by simp) ?_
                    refine AllReadyIn.cons rfl (fun K hK => ?_) AllReadyIn.nil
                    · rw [if_pos (by kernel_rfl)]
                      go_simp
                      refine hK _ _ ?_
                      clear hK K
                      refine wpAnyIn_ready (rs := [6]) (by kernel_rfl) (by simp) ?_
                      refine AllReadyIn.cons rfl (fun K hK => ?_) AllReadyIn.nil
                      · rw [if_pos (by kernel_rfl)]
                        go_simp
                        refine hK _ _ ?_
                        clear hK K
                        refine wpAnyIn_done (by kernel_rfl) ?_ _
                        exact ⟨rfl, ⟨_, _, _, _, _, _, _, _, _, _, _, _, _, _, _, _, _, _, rfl⟩, by first | rfl | rw [HJT.out]⟩
        · rintro e a1 w1 ⟨rfl, ⟨v11, v12, v13, v14, v15, v16, v17, v18, v19, v20, v21, v22, v23, v24, v25, v26, v27, v28, rfl⟩, rfl⟩
          cases last with
          | false =>
            have HO2 : Hid (runL (vals pre ++ [(b, false)]) 0 0 = none) := Lib.hid (by rw [HO.out, if_pos rfl, runL])
            clear HO
            gi_wp2
            refine ⟨ko_drew (ko_set (ko_set (KeepsOthers.refl _))), by show World.cell? _ _ = _; go_simp, ?_, ((HB.out.setCell (p := ⟨w.heap.size + 1 + 1 + 1, 0, none⟩) (by dsimp only; omega) _).setCell (p := ⟨w.heap.size + 1 + 1 + 1 + 1, 0, none⟩) (by dsimp only; omega) _).drew, by rw [HVS.out]; exact HO2.out⟩
            rw [HVS.out, HAC2.out, List.length_append, List.length_singleton, ← HK.out]
            exact ⟨by go_simp, by go_simp, by go_simp, by go_simp, by rw [show ((k + 1 : Nat) : Int) = (k : Int) + 1 from by omega]; go_simp, by go_simp, by go_simp, by go_simp, by go_simp, by go_simp⟩
          | true =>
            have hnt : ¬(true = false) := fun h => by cases h
            by_cases hz : b = 0 ∧ 0 < k
            · have HO2 : Hid (runL (vals pre ++ [(b, true)]) 0 0 = some (0, 0, 2)) := Lib.hid (by rw [HO.out, if_neg hnt, if_pos hz])
              have g1 : ((b : Int) == 0) = true := beq_iff_eq.2 (by omega)
              have g2 : decide (1 < (k : Int) + 1) = true := decide_eq_true (by omega)
              have g3 : decide (0 < k) = true := decide_eq_true hz.2
              clear HO hz hnt
              gi_wp2
              exact ⟨ko_drew (ko_set (ko_set (ko_set (ko_set (ko_set (KeepsOthers.refl _)))))), ⟨(0, 0, 2), by rw [HVS.out]; exact HO2.out, ⟨by go_simp, by go_simp, by go_simp⟩⟩, (((((HB.out.setCell (p := ⟨w.heap.size + 1 + 1 + 1, 0, none⟩) (by dsimp only; omega) _).setCell (p := ⟨w.heap.size + 1 + 1 + 1 + 1, 0, none⟩) (by dsimp only; omega) _).setCell (p := ⟨w.heap.size, 0, none⟩) (by dsimp only; omega) _).setCell (p := ⟨w.heap.size + 1, 0, none⟩) (by dsimp only; omega) _).setCell (p := ⟨w.heap.size + 1 + 1, 0, none⟩) (by dsimp only; omega) _).drew, rfl⟩
            · have HO2 : Hid (runL (vals pre ++ [(b, true)]) 0 0 = some (a', k + 1, 0)) := Lib.hid (by rw [HO.out, if_neg hnt, if_neg hz])
              have hz2 : ((b : Int) == 0) = false ∨ ((b : Int) == 0) = true ∧ decide (1 < (k : Int) + 1) = false ∧ decide (0 < k) = false := by
                by_cases h : b = 0
                · exact .inr ⟨beq_iff_eq.2 (by omega), decide_eq_false (by omega), decide_eq_false (by omega)⟩
                · exact .inl (beq_eq_false_iff_ne.2 (by omega))
              clear HO hz hnt
              rcases hz2 with g1 | ⟨g1, g2, g3⟩
              · gi_wp2
                refine wpIn_region_any (by kernel_rfl) ?_
                change wpAnyIn _ _ _ _ _ _ 5 _ _ (((W.setCell ⟨w.heap.size + 1 + 1 + 1, 0, none⟩ (.int .u64 (a' : Nat))).setCell ⟨w.heap.size + 1 + 1 + 1 + 1, 0, none⟩ (.int .i64 ((k : Int) + 1))).drew.drew)
                refine wpAnyIn_ready (rs := [0, 1]) (by kernel_rfl) (by simp) ?_
                refine AllReadyIn.cons rfl (fun K hK => ?_) ?_
                · rw [if_pos (by kernel_rfl)]
                  go_simp
                  refine hK _ _ ?_
                  clear hK K
                  refine wpAnyIn_ready (rs := [1, 2]) (by kernel_rfl) (by simp) ?_
                  refine AllReadyIn.cons rfl (fun K hK => ?_) ?_
                  · rw [if_pos (by kernel_rfl)]
                    go_simp
                    refine hK _ _ ?_
                    clear hK K
                    refine wpAnyIn_ready (rs := [2]) (by kernel_rfl) (by simp) ?_
                    refine AllReadyIn.cons rfl (fun K hK => ?_) AllReadyIn.nil
                    · rw [if_pos (by kernel_rfl)]
                      go_simp
                      refine hK _ _ ?_
                      clear hK K
                      refine wpAnyIn_ready (rs := [3]) (by kernel_rfl) (by simp) ?_
                      refine AllReadyIn.cons rfl (fun K hK => ?_) AllReadyIn.nil
                      · rw [if_pos (by kernel_rfl)]
                        go_simp
                        refine hK _ _ ?_
                        clear hK K
                        refine wpAnyIn_ready (rs := [4]) (by kernel_rfl) (by simp) ?_
                        refine AllReadyIn.cons rfl (fun K hK => ?_) AllReadyIn.nil
                        · rw [if_pos (by kernel_rfl)]
                          go_simp
                          refine hK _ _ ?_
                          clear hK K
                          refine wpAnyIn_done (by kernel_rfl) ?_ _
                          gi_wp2
                          exact ⟨ko_drew (ko_drew (ko_set (ko_set (ko_set (ko_set (ko_set (KeepsOthers.refl _))))))), ⟨(a', k + 1, 0), by rw [HVS.out]; exact HO2.out, ⟨by go_simp, by rw [show ((k + 1 : Nat) : Int) = (k : Int) + 1 from by omega]; go_simp, by go_simp⟩⟩, (((((HB.out.setCell (p := ⟨w.heap.size + 1 + 1 + 1, 0, none⟩) (by dsimp only; omega) _).setCell (p := ⟨w.heap.size + 1 + 1 + 1 + 1, 0, none⟩) (by dsimp only; omega) _).setCell (p := ⟨w.heap.size, 0, none⟩) (by dsimp only; omega) _).setCell (p := ⟨w.heap.size + 1, 0, none⟩) (by dsimp only; omega) _).setCell (p := ⟨w.heap.size + 1 + 1, 0, none⟩) (by dsimp only; omega) _).drew.drew, rfl⟩
                  refine AllReadyIn.cons rfl (fun K hK => ?_) AllReadyIn.nil
                  · rw [if_pos (by kernel_rfl)]
                    go_simp
                    refine hK _ _ ?_
                    clear hK K
                    refine wpAnyIn_ready (rs := [1]) (by kernel_rfl) (by simp) ?_
                    refine AllReadyIn.cons rfl (fun K hK => ?_) AllReadyIn.nil
                    · rw [if_pos (by kernel_rfl)]
                      go_simp
                      refine hK _ _ ?_
                      clear hK K
                      refine wpAnyIn_ready (rs := [3]) (by kernel_rfl) (by simp) ?_
                      refine AllReadyIn.cons rfl (fun K hK => ?_) AllReadyIn.nil
                      · rw [if_pos (by kernel_rfl)]
                        go_simp
                        refine hK _ _ ?_
                        clear hK K
                        refine wpAnyIn_ready (rs := [4]) (by kernel_rfl) (by simp) ?_
                        refine AllReadyIn.cons rfl (fun K hK => ?_) AllReadyIn.nil
                        · rw [if_pos (by kernel_rfl)]
                          go_simp
                          refine hK _ _ ?_
                          clear hK K
                          refine wpAnyIn_done (by kernel_rfl) ?_ _
                          gi_wp2
                          exact ⟨ko_drew (ko_drew (ko_set (ko_set (ko_set (ko_set (ko_set (KeepsOthers.refl _))))))), ⟨(a', k + 1, 0), by rw [HVS.out]; exact HO2.out, ⟨by go_simp, by rw [show ((k + 1 : Nat) : Int) = (k : Int) + 1 from by omega]; go_simp, by go_simp⟩⟩, (((((HB.out.setCell (p := ⟨w.heap.size + 1 + 1 + 1, 0, none⟩) (by dsimp only; omega) _).setCell (p := ⟨w.heap.size + 1 + 1 + 1 + 1, 0, none⟩) (by dsimp only; omega) _).setCell (p := ⟨w.heap.size, 0, none⟩) (by dsimp only; omega) _).setCell (p := ⟨w.heap.size + 1, 0, none⟩) (by dsimp only; omega) _).setCell (p := ⟨w.heap.size + 1 + 1, 0, none⟩) (by dsimp only; omega) _).drew.drew, rfl⟩
                refine AllReadyIn.cons rfl (fun K hK => ?_) AllReadyIn.nil
                · rw [if_pos (by kernel_rfl)]
                  go_simp
                  refine hK _ _ ?_
                  clear hK K
                  refine wpAnyIn_ready (rs := [0]) (by kernel_rfl) (by simp) ?_
                  refine AllReadyIn.cons rfl (fun K hK => ?_) AllReadyIn.nil
                  · rw [if_pos (by kernel_rfl)]
                    go_simp
                    refine hK _ _ ?_
                    clear hK K
                    refine wpAnyIn_ready (rs := [2]) (by kernel_rfl) (by simp) ?_
                    refine AllReadyIn.cons rfl (fun K hK => ?_) AllReadyIn.nil
                    · rw [if_pos (by kernel_rfl)]
                      go_simp
                      refine hK _ _ ?_
                      clear hK K
                      refine wpAnyIn_ready (rs := [3]) (by kernel_rfl) (by simp) ?_
                      refine AllReadyIn.cons rfl (fun K hK => ?_) AllReadyIn.nil
                      · rw [if_pos (by kernel_rfl)]
                        go_simp
                        refine hK _ _ ?_
                        clear hK K
                        refine wpAnyIn_ready (rs := [4]) (by kernel_rfl) (by simp) ?_
                        refine AllReadyIn.cons rfl (fun K hK => ?_) AllReadyIn.nil
                        · rw [if_pos (by kernel_rfl)]
                          go_simp
                          refine hK _ _ ?_
                          clear hK K
                          refine wpAnyIn_done (by kernel_rfl) ?_ _
                          gi_wp2
                          exact ⟨ko_drew (ko_drew (ko_set (ko_set (ko_set (ko_set (ko_set (KeepsOthers.refl _))))))), ⟨(a', k + 1, 0), by rw [HVS.out]; exact HO2.out, ⟨by go_simp, by rw [show ((k + 1 : Nat) : Int) = (k : Int) + 1 from by omega]; go_simp, by go_simp⟩⟩, (((((HB.out.setCell (p := ⟨w.heap.size + 1 + 1 + 1, 0, none⟩) (by dsimp only; omega) _).setCell (p := ⟨w.heap.size + 1 + 1 + 1 + 1, 0, none⟩) (by dsimp only; omega) _).setCell (p := ⟨w.heap.size, 0, none⟩) (by dsimp only; omega) _).setCell (p := ⟨w.heap.size + 1, 0, none⟩) (by dsimp only; omega) _).setCell (p := ⟨w.heap.size + 1 + 1, 0, none⟩) (by dsimp only; omega) _).drew.drew, rfl⟩
              · gi_wp2
                refine wpIn_region_any (by kernel_rfl) ?_
                change wpAnyIn _ _ _ _ _ _ 5 _ _ (((W.setCell ⟨w.heap.size + 1 + 1 + 1, 0, none⟩ (.int .u64 (a' : Nat))).setCell ⟨w.heap.size + 1 + 1 + 1 + 1, 0, none⟩ (.int .i64 ((k : Int) + 1))).drew.drew)
                refine wpAnyIn_ready (rs := [0, 1]) (by kernel_rfl) (by simp) ?_
                refine AllReadyIn.cons rfl (fun K hK => ?_) ?_
                · rw [if_pos (by kernel_rfl)]
                  go_simp
                  refine hK _ _ ?_
                  clear hK K
                  refine wpAnyIn_ready (rs := [1, 2]) (by kernel_rfl) (by simp) ?_
                  refine AllReadyIn.cons rfl (fun K hK => ?_) ?_
                  · rw [if_pos (by kernel_rfl)]
                    go_simp
                    refine hK _ _ ?_
                    clear hK K
                    refine wpAnyIn_ready (rs := [2]) (by kernel_rfl) (by simp) ?_
                    refine AllReadyIn.cons rfl (fun K hK => ?_) AllReadyIn.nil
                    · rw [if_pos (by kernel_rfl)]
                      go_simp
                      refine hK _ _ ?_
                      clear hK K
                      refine wpAnyIn_ready (rs := [3]) (by kernel_rfl) (by simp) ?_
                      refine AllReadyIn.cons rfl (fun K hK => ?_) AllReadyIn.nil
                      · rw [if_pos (by kernel_rfl)]
                        go_simp
                        refine hK _ _ ?_
                        clear hK K
                        refine wpAnyIn_ready (rs := [4]) (by kernel_rfl) (by simp) ?_
                        refine AllReadyIn.cons rfl (fun K hK => ?_) AllReadyIn.nil
                        · rw [if_pos (by kernel_rfl)]
                          go_simp
                          refine hK _ _ ?_
                          clear hK K
                          refine wpAnyIn_done (by kernel_rfl) ?_ _
                          gi_wp2
                          exact ⟨ko_drew (ko_drew (ko_set (ko_set (ko_set (ko_set (ko_set (KeepsOthers.refl _))))))), ⟨(a', k + 1, 0), by rw [HVS.out]; exact HO2.out, ⟨by go_simp, by rw [show ((k + 1 : Nat) : Int) = (k : Int) + 1 from by omega]; go_simp, by go_simp⟩⟩, (((((HB.out.setCell (p := ⟨w.heap.size + 1 + 1 + 1, 0, none⟩) (by dsimp only; omega) _).setCell (p := ⟨w.heap.size + 1 + 1 + 1 + 1, 0, none⟩) (by dsimp only; omega) _).setCell (p := ⟨w.heap.size, 0, none⟩) (by dsimp only; omega) _).setCell (p := ⟨w.heap.size + 1, 0, none⟩) (by dsimp only; omega) _).setCell (p := ⟨w.heap.size + 1 + 1, 0, none⟩) (by dsimp only; omega) _).drew.drew, rfl⟩
                  refine AllReadyIn.cons rfl (fun K hK => ?_) AllReadyIn.nil
                  · rw [if_pos (by kernel_rfl)]
                    go_simp
                    refine hK _ _ ?_
                    clear hK K
                    refine wpAnyIn_ready (rs := [1]) (by kernel_rfl) (by simp) ?_
                    refine AllReadyIn.cons rfl (fun K hK => ?_) AllReadyIn.nil
                    · rw [if_pos (by kernel_rfl)]
                      go_simp
                      refine hK _ _ ?_
                      clear hK K
                      refine wpAnyIn_ready (rs := [3]) (by kernel_rfl) (by simp) ?_
                      refine AllReadyIn.cons rfl (fun K hK => ?_) AllReadyIn.nil
                      · rw [if_pos (by kernel_rfl)]
                        go_simp
                        refine hK _ _ ?_
                        clear hK K
                        refine wpAnyIn_ready (rs := [4]) (by kernel_rfl) (by simp) ?_
                        refine AllReadyIn.cons rfl (fun K hK => ?_) AllReadyIn.nil
                        · rw [if_pos (by kernel_rfl)]
                          go_simp
                          refine hK _ _ ?_
                          clear hK K
                          refine wpAnyIn_done (by kernel_rfl) ?_ _
                          gi_wp2
                          exact ⟨ko_drew (ko_drew (ko_set (ko_set (ko_set (ko_set (ko_set (KeepsOthers.refl _))))))), ⟨(a', k + 1, 0), by rw [HVS.out]; exact HO2.out, ⟨by go_simp, by rw [show ((k + 1 : Nat) : Int) = (k : Int) + 1 from by omega]; go_simp, by go_simp⟩⟩, (((((HB.out.setCell (p := ⟨w.heap.size + 1 + 1 + 1, 0, none⟩) (by dsimp only; omega) _).setCell (p := ⟨w.heap.size + 1 + 1 + 1 + 1, 0, none⟩) (by dsimp only; omega) _).setCell (p := ⟨w.heap.size, 0, none⟩) (by dsimp only; omega) _).setCell (p := ⟨w.heap.size + 1, 0, none⟩) (by dsimp only; omega) _).setCell (p := ⟨w.heap.size + 1 + 1, 0, none⟩) (by dsimp only; omega) _).drew.drew, rfl⟩
                refine AllReadyIn.cons rfl (fun K hK => ?_) AllReadyIn.nil
                · rw [if_pos (by kernel_rfl)]
                  go_simp
                  refine hK _ _ ?_
                  clear hK K
                  refine wpAnyIn_ready (rs := [0]) (by kernel_rfl) (by simp) ?_
                  refine AllReadyIn.cons rfl (fun K hK => ?_) AllReadyIn.nil
                  · rw [if_pos (by kernel_rfl)]
                    go_simp
                    refine hK _ _ ?_
                    clear hK K
                    refine wpAnyIn_ready (rs := [2]) (by kernel_rfl) (by simp) ?_
                    refine AllReadyIn.cons rfl (fun K hK => ?_) AllReadyIn.nil
                    · rw [if_pos (by kernel_rfl)]
                      go_simp
                      refine hK _ _ ?_
                      clear hK K
                      refine wpAnyIn_ready (rs := [3]) (by kernel_rfl) (by simp) ?_
                      refine AllReadyIn.cons rfl (fun K hK => ?_) AllReadyIn.nil
                      · rw [if_pos (by kernel_rfl)]
                        go_simp
                        refine hK _ _ ?_
                        clear hK K
                        refine wpAnyIn_ready (rs := [4]) (by kernel_rfl) (by simp) ?_
                        refine AllReadyIn.cons rfl (fun K hK => ?_) AllReadyIn.nil
                        · rw [if_pos (by kernel_rfl)]
                          go_simp
                          refine hK _ _ ?_
                          clear hK K
                          refine wpAnyIn_done (by kernel_rfl) ?_ _
                          gi_wp2
                          exact ⟨ko_drew (ko_drew (ko_set (ko_set (ko_set (ko_set (ko_set (KeepsOthers.refl _))))))), ⟨(a', k + 1, 0), by rw [HVS.out]; exact HO2.out, ⟨by go_simp, by rw [show ((k + 1 : Nat) : Int) = (k : Int) + 1 from by omega]; go_simp, by go_simp⟩⟩, (((((HB.out.setCell (p := ⟨w.heap.size + 1 + 1 + 1, 0, none⟩) (by dsimp only; omega) _).setCell (p := ⟨w.heap.size + 1 + 1 + 1 + 1, 0, none⟩) (by dsimp only; omega) _).setCell (p := ⟨w.heap.size, 0, none⟩) (by dsimp only; omega) _).setCell (p := ⟨w.heap.size + 1, 0, none⟩) (by dsimp only; omega) _).setCell (p := ⟨w.heap.size + 1 + 1, 0, none⟩) (by dsimp only; omega) _).drew.drew, rfl⟩
      · gi_wp2
        refine wpIn_mono (Q := fun e a1 w1 => e = .normal ∧ (∃ v11 v12 v13 v14 v15 v16 v17 v18 v19 v20 v21 v22 v23 v24 v25 v26 v27 v28, a1 = ({ tmps := #[.string s, undef, .pointer (some ⟨w.heap.size, 0, none⟩), .pointer (some ⟨w.heap.size + 1, 0, none⟩), .pointer (some ⟨w.heap.size + 1 + 1, 0, none⟩), .pointer (some ⟨w.heap.size + 1 + 1 + 1, 0, none⟩), .pointer (some ⟨w.heap.size + 1 + 1 + 1 + 1, 0, none⟩), .int .u64 (b : Nat), .bool true, .string s, .func (.func 70) #[] #[.pointer (some ⟨w.heap.size + 1 + 1 + 1 + 1 + 1, 0, none⟩)], v11, v12, v13, v14, v15, v16, v17, v18, v19, v20, v21, v22, v23, v24, v25, v26, v27, v28, undef, undef, undef, undef, undef, undef, undef, undef, undef, undef, undef, undef], defers := [] } : Act)) ∧ w1 = (W.setCell ⟨w.heap.size + 1 + 1 + 1, 0, none⟩ (.int .u64 (a' : Nat))).drew) ?_ ?_
        · refine wpIn_region_any (by kernel_rfl) ?_
          change wpAnyIn _ _ _ _ _ _ 7 _ _ _
          refine wpAnyIn_ready (rs := [0, 1, 2]) (by kernel_rfl) (by simp) ?_
          refine AllReadyIn.cons rfl (fun K hK => ?_) ?_
          · rw [if_pos (by kernel_rfl)]
            go_simp
            refine hK _ _ ?_
            clear hK K
            refine wpAnyIn_ready (rs := [1, 2]) (by kernel_rfl) (by simp) ?_
            refine AllReadyIn.cons rfl (fun K hK => ?_) ?_
            · rw [if_pos (by kernel_rfl)]
              go_simp
              refine hK _ _ ?_
              clear hK K
              refine wpAnyIn_ready (rs := [2]) (by kernel_rfl) (by simp) ?_
              refine AllReadyIn.cons rfl (fun K hK => ?_) AllReadyIn.nil
              · rw [if_pos (by kernel_rfl)]
                go_simp
                refine hK _ _ ?_
                clear hK K
                refine wpAnyIn_ready (rs := [3]) (by kernel_rfl) (by simp) ?_
                refine AllReadyIn.cons rfl (fun K hK => ?_) AllReadyIn.nil
                · rw [if_pos (by kernel_rfl)]
                  go_simp
                  refine hK _ _ ?_
                  clear hK K
                  refine wpAnyIn_ready (rs := [4]) (by kernel_rfl) (by simp) ?_
                  refine AllReadyIn.cons rfl (fun K hK => ?_) AllReadyIn.nil
                  · rw [if_pos (by kernel_rfl)]
                    go_simp
                    refine hK _ _ ?_
                    clear hK K
                    refine wpAnyIn_ready (rs := [5]) (by kernel_rfl) (by simp) ?_
                    refine AllReadyIn.cons rfl (fun K hK => ?_) AllReadyIn.nil
                    · rw [if_pos (by kernel_rfl)]
                      go_simp
                      refine hK _ _ ?_
                      clear hK K
                      refine wpAnyIn_ready (rs := [6]) (by kernel_rfl) (by simp) ?_
                      refine AllReadyIn.cons rfl (fun K hK => ?_) AllReadyIn.nil
                      · rw [if_pos (by kernel_rfl)]
                        go_simp
                        refine hK _ _ ?_
                        clear hK K
                        refine wpAnyIn_done (by kernel_rfl) ?_ _
                        exact ⟨rfl, ⟨_, _, _, _, _, _, _, _, _, _, _, _, _, _, _, _, _, _, rfl⟩, by first | rfl | rw [HJT.out]⟩
            refine AllReadyIn.cons rfl (fun K hK => ?_) AllReadyIn.nil
            · rw [if_pos (by kernel_rfl)]
              go_simp
              refine hK _ _ ?_
              clear hK K
              refine wpAnyIn_ready (rs := [1, 3]) (by kernel_rfl) (by simp) ?_
              refine AllReadyIn.cons rfl (fun K hK => ?_) ?_
              · rw [if_pos (by kernel_rfl)]
                go_simp
                refine hK _ _ ?_
                clear hK K
                refine wpAnyIn_ready (rs := [3]) (by kernel_rfl) (by simp) ?_
                refine AllReadyIn.cons rfl (fun K hK => ?_) AllReadyIn.nil
                · rw [if_pos (by kernel_rfl)]
                  go_simp
                  refine hK _ _ ?_
                  clear hK K
                  refine wpAnyIn_ready (rs := [4]) (by kernel_rfl) (by simp) ?_
                  refine AllReadyIn.cons rfl (fun K hK => ?_) AllReadyIn.nil
                  · rw [if_pos (by kernel_rfl)]
                    go_simp
                    refine hK _ _ ?_
                    clear hK K
                    refine wpAnyIn_ready (rs := [5]) (by kernel_rfl) (by simp) ?_
                    refine AllReadyIn.cons rfl (fun K hK => ?_) AllReadyIn.nil
                    · rw [if_pos (by kernel_rfl)]
                      go_simp
                      refine hK _ _ ?_
                      clear hK K
                      refine wpAnyIn_ready (rs := [6]) (by kernel_rfl) (by simp) ?_
                      refine AllReadyIn.cons rfl (fun K hK => ?_) AllReadyIn.nil
                      · rw [if_pos (by kernel_rfl)]
                        go_simp
                        refine hK _ _ ?_
                        clear hK K
                        refine wpAnyIn_done (by kernel_rfl) ?_ _
                        exact ⟨rfl, ⟨_, _, _, _, _, _, _, _, _, _, _, _, _, _, _, _, _, _, rfl⟩, by first | rfl | rw [HJT.out]⟩
              refine AllReadyIn.cons rfl (fun K hK => ?_) AllReadyIn.nil
              · rw [if_pos (by kernel_rfl)]
                go_simp
                refine hK _ _ ?_
                clear hK K
                refine wpAnyIn_ready (rs := [1]) (by kernel_rfl) (by simp) ?_
                refine AllReadyIn.cons rfl (fun K hK => ?_) AllReadyIn.nil
                · rw [if_pos (by kernel_rfl)]
                  go_simp
                  refine hK _ _ ?_
                  clear hK K
                  refine wpAnyIn_ready (rs := [4]) (by kernel_rfl) (by simp) ?_
                  refine AllReadyIn.cons rfl (fun K hK => ?_) AllReadyIn.nil
                  · rw [if_pos (by kernel_rfl)]
                    go_simp
                    refine hK _ _ ?_
                    clear hK K
                    refine wpAnyIn_ready (rs := [5]) (by kernel_rfl) (by simp) ?_
                    refine AllReadyIn.cons rfl (fun K hK => ?_) AllReadyIn.nil
                    · rw [if_pos (by kernel_rfl)]
                      go_simp
                      refine hK _ _ ?_
                      clear hK K
                      refine wpAnyIn_ready (rs := [6]) (by kernel_rfl) (by simp) ?_
                      refine AllReadyIn.cons rfl (fun K hK => ?_) AllReadyIn.nil
                      · rw [if_pos (by kernel_rfl)]
                        go_simp
                        refine hK _ _ ?_
                        clear hK K
                        refine wpAnyIn_done (by kernel_rfl) ?_ _
                        exact ⟨rfl, ⟨_, _, _, _, _, _, _, _, _, _, _, _, _, _, _, _, _, _, rfl⟩, by first | rfl | rw [HJT.out]⟩
          refine AllReadyIn.cons rfl (fun K hK => ?_) ?_
          · rw [if_pos (by kernel_rfl)]
            go_simp
            refine hK _ _ ?_
            clear hK K
            refine wpAnyIn_ready (rs := [0, 2]) (by kernel_rfl) (by simp) ?_
            refine AllReadyIn.cons rfl (fun K hK => ?_) ?_
            · rw [if_pos (by kernel_rfl)]
              go_simp
              refine hK _ _ ?_
              clear hK K
              refine wpAnyIn_ready (rs := [2]) (by kernel_rfl) (by simp) ?_
              refine AllReadyIn.cons rfl (fun K hK => ?_) AllReadyIn.nil
              · rw [if_pos (by kernel_rfl)]
                go_simp
                refine hK _ _ ?_
                clear hK K
                refine wpAnyIn_ready (rs := [3]) (by kernel_rfl) (by simp) ?_
                refine AllReadyIn.cons rfl (fun K hK => ?_) AllReadyIn.nil
                · rw [if_pos (by kernel_rfl)]
                  go_simp
                  refine hK _ _ ?_
                  clear hK K
                  refine wpAnyIn_ready (rs := [4]) (by kernel_rfl) (by simp) ?_
                  refine AllReadyIn.cons rfl (fun K hK => ?_) AllReadyIn.nil
                  · rw [if_pos (by kernel_rfl)]
                    go_simp
                    refine hK _ _ ?_
                    clear hK K
                    refine wpAnyIn_ready (rs := [5]) (by kernel_rfl) (by simp) ?_
                    refine AllReadyIn.cons rfl (fun K hK => ?_) AllReadyIn.nil
                    · rw [if_pos (by kernel_rfl)]
                      go_simp
                      refine hK _ _ ?_
                      clear hK K
                      refine wpAnyIn_ready (rs := [6]) (by kernel_rfl) (by simp) ?_
                      refine AllReadyIn.cons rfl (fun K hK => ?_) AllReadyIn.nil
                      · rw [if_pos (by kernel_rfl)]
                        go_simp
                        refine hK _ _ ?_
                        clear hK K
                        refine wpAnyIn_done (by kernel_rfl) ?_ _
                        exact ⟨rfl, ⟨_, _, _, _, _, _, _, _, _, _, _, _, _, _, _, _, _, _, rfl⟩, by first | rfl | rw [HJT.out]⟩
            refine AllReadyIn.cons rfl (fun K hK => ?_) AllReadyIn.nil
            · rw [if_pos (by kernel_rfl)]
              go_simp
              refine hK _ _ ?_
              clear hK K
              refine wpAnyIn_ready (rs := [0, 3]) (by kernel_rfl) (by simp) ?_
              refine AllReadyIn.cons rfl (fun K hK => ?_) ?_
              · rw [if_pos (by kernel_rfl)]
                go_simp
                refine hK _ _ ?_
                clear hK K
                refine wpAnyIn_ready (rs := [3]) (by kernel_rfl) (by simp) ?_
                refine AllReadyIn.cons rfl (fun K hK => ?_) AllReadyIn.nil
                · rw [if_pos (by kernel_rfl)]
                  go_simp
                  refine hK _ _ ?_
                  clear hK K
                  refine wpAnyIn_ready (rs := [4]) (by kernel_rfl) (by simp) ?_
                  refine AllReadyIn.cons rfl (fun K hK => ?_) AllReadyIn.nil
                  · rw [if_pos (by kernel_rfl)]
                    go_simp
                    refine hK _ _ ?_
                    clear hK K
                    refine wpAnyIn_ready (rs := [5]) (by kernel_rfl) (by simp) ?_
                    refine AllReadyIn.cons rfl (fun K hK => ?_) AllReadyIn.nil
                    · rw [if_pos (by kernel_rfl)]
                      go_simp
                      refine hK _ _ ?_
                      clear hK K
                      refine wpAnyIn_ready (rs := [6]) (by kernel_rfl) (by simp) ?_
                      refine AllReadyIn.cons rfl (fun K hK => ?_) AllReadyIn.nil
                      · rw [if_pos (by kernel_rfl)]
                        go_simp
                        refine hK _ _ ?_
                        clear hK K
                        refine wpAnyIn_done (by kernel_rfl) ?_ _
                        exact ⟨rfl, ⟨_, _, _, _, _, _, _, _, _, _, _, _, _, _, _, _, _, _, rfl⟩, by first | rfl | rw [HJT.out]⟩
              refine AllReadyIn.cons rfl (fun K hK => ?_) AllReadyIn.nil
              · rw [if_pos (by kernel_rfl)]
                go_simp
                refine hK _ _ ?_
                clear hK K
                refine wpAnyIn_ready (rs := [0, 4]) (by kernel_rfl) (by simp) ?_
                refine AllReadyIn.cons rfl (fun K hK => ?_) ?_
                · rw [if_pos (by kernel_rfl)]
                  go_simp
                  refine hK _ _ ?_
                  clear hK K
                  refine wpAnyIn_ready (rs := [4]) (by kernel_rfl) (by simp) ?_
                  refine AllReadyIn.cons rfl (fun K hK => ?_) AllReadyIn.nil
                  · rw [if_pos (by kernel_rfl)]
                    go_simp
                    refine hK _ _ ?_
                    clear hK K
                    refine wpAnyIn_ready (rs := [5]) (by kernel_rfl) (by simp) ?_
                    refine AllReadyIn.cons rfl (fun K hK => ?_) AllReadyIn.nil
                    · rw [if_pos (by kernel_rfl)]
                      go_simp
                      refine hK _ _ ?_
                      clear hK K
                      refine wpAnyIn_ready (rs := [6]) (by kernel_rfl) (by simp) ?_
                      refine AllReadyIn.cons rfl (fun K hK => ?_) AllReadyIn.nil
                      · rw [if_pos (by kernel_rfl)]
                        go_simp
                        refine hK _ _ ?_
                        clear hK K
                        refine wpAnyIn_done (by kernel_rfl) ?_ _
                        exact ⟨rfl, ⟨_, _, _, _, _, _, _, _, _, _, _, _, _, _, _, _, _, _, rfl⟩, by first | rfl | rw [HJT.out]⟩
                refine AllReadyIn.cons rfl (fun K hK => ?_) AllReadyIn.nil
                · rw [if_pos (by kernel_rfl)]
                  go_simp
                  refine hK _ _ ?_
                  clear hK K
                  refine wpAnyIn_ready (rs := [0]) (by kernel_rfl) (by simp) ?_
                  refine AllReadyIn.cons rfl (fun K hK => ?_) AllReadyIn.nil
                  · rw [if_pos (by kernel_rfl)]
                    go_simp
                    refine hK _ _ ?_
                    clear hK K
                    refine wpAnyIn_ready (rs := [5]) (by kernel_rfl) (by simp) ?_
                    refine AllReadyIn.cons rfl (fun K hK => ?_) AllReadyIn.nil
                    · rw [if_pos (by kernel_rfl)]
                      go_simp
                      refine hK _ _ ?_
                      clear hK K
                      refine wpAnyIn_ready (rs := [6]) (by kernel_rfl) (by simp) ?_
                      refine AllReadyIn.cons rfl (fun K hK => ?_) AllReadyIn.nil
                      · rw [if_pos (by kernel_rfl)]
                        go_simp
                        refine hK _ _ ?_
                        clear hK K
                        refine wpAnyIn_done (by kernel_rfl) ?_ _
                        exact ⟨rfl, ⟨_, _, _, _, _, _, _, _, _, _, _, _, _, _, _, _, _, _, rfl⟩, by first | rfl | rw [HJT.out]⟩
          refine AllReadyIn.cons rfl (fun K hK => ?_) AllReadyIn.nil
          · rw [if_pos (by kernel_rfl)]
            go_simp
            refine hK _ _ ?_
            clear hK K
            refine wpAnyIn_ready (rs := [0, 1, 3]) (by kernel_rfl) (by simp) ?_
            refine AllReadyIn.cons rfl (fun K hK => ?_) ?_
            · rw [if_pos (by kernel_rfl)]
              go_simp
              refine hK _ _ ?_
              clear hK K
              refine wpAnyIn_ready (rs := [1, 3]) (by kernel_rfl) (by simp) ?_
              refine AllReadyIn.cons rfl (fun K hK => ?_) ?_
              · rw [if_pos (by kernel_rfl)]
                go_simp
                refine hK _ _ ?_
                clear hK K
                refine wpAnyIn_ready (rs := [3]) (by kernel_rfl) (by simp) ?_
                refine AllReadyIn.cons rfl (fun K hK => ?_) AllReadyIn.nil
                · rw [if_pos (by kernel_rfl)]
                  go_simp
                  refine hK _ _ ?_
                  clear hK K
                  refine wpAnyIn_ready (rs := [4]) (by kernel_rfl) (by simp) ?_
                  refine AllReadyIn.cons rfl (fun K hK => ?_) AllReadyIn.nil
                  · rw [if_pos (by kernel_rfl)]
                    go_simp
                    refine hK _ _ ?_
                    clear hK K
                    refine wpAnyIn_ready (rs := [5]) (by kernel_rfl) (by simp) ?_
                    refine AllReadyIn.cons rfl (fun K hK => ?_) AllReadyIn.nil
                    · rw [if_pos (by kernel_rfl)]
                      go_simp
                      refine hK _ _ ?_
                      clear hK K
                      refine wpAnyIn_ready (rs := [6]) (by kernel_rfl) (by simp) ?_
                      refine AllReadyIn.cons rfl (fun K hK => ?_) AllReadyIn.nil
                      · rw [if_pos (by kernel_rfl)]
                        go_simp
                        refine hK _ _ ?_
                        clear hK K
                        refine wpAnyIn_done (by kernel_rfl) ?_ _
                        exact ⟨rfl, ⟨_, _, _, _, _, _, _, _, _, _, _, _, _, _, _, _, _, _, rfl⟩, by first | rfl | rw [HJT.out]⟩
              refine AllReadyIn.cons rfl (fun K hK => ?_) AllReadyIn.nil
              · rw [if_pos (by kernel_rfl)]
                go_simp
                refine hK _ _ ?_
                clear hK K
                refine wpAnyIn_ready (rs := [1]) (by kernel_rfl) (by simp) ?_
                refine AllReadyIn.cons rfl (fun K hK => ?_) AllReadyIn.nil
                · rw [if_pos (by kernel_rfl)]
                  go_simp
                  refine hK _ _ ?_
                  clear hK K
                  refine wpAnyIn_ready (rs := [4]) (by kernel_rfl) (by simp) ?_
                  refine AllReadyIn.cons rfl (fun K hK => ?_) AllReadyIn.nil
                  · rw [if_pos (by kernel_rfl)]
                    go_simp
                    refine hK _ _ ?_
                    clear hK K
                    refine wpAnyIn_ready (rs := [5]) (by kernel_rfl) (by simp) ?_
                    refine AllReadyIn.cons rfl (fun K hK => ?_) AllReadyIn.nil
                    · rw [if_pos (by kernel_rfl)]
                      go_simp
                      refine hK _ _ ?_
                      clear hK K
                      refine wpAnyIn_ready (rs := [6]) (by kernel_rfl) (by simp) ?_
                      refine AllReadyIn.cons rfl (fun K hK => ?_) AllReadyIn.nil
                      · rw [if_pos (by kernel_rfl)]
                        go_simp
                        refine hK _ _ ?_
                        clear hK K
                        refine wpAnyIn_done (by kernel_rfl) ?_ _
                        exact ⟨rfl, ⟨_, _, _, _, _, _, _, _, _, _, _, _, _, _, _, _, _, _, rfl⟩, by first | rfl | rw [HJT.out]⟩
            refine AllReadyIn.cons rfl (fun K hK => ?_) ?_
            · rw [if_pos (by kernel_rfl)]
              go_simp
              refine hK _ _ ?_
              clear hK K
              refine wpAnyIn_ready (rs := [0, 3]) (by kernel_rfl) (by simp) ?_
              refine AllReadyIn.cons rfl (fun K hK => ?_) ?_
              · rw [if_pos (by kernel_rfl)]
                go_simp
                refine hK _ _ ?_
                clear hK K
                refine wpAnyIn_ready (rs := [3]) (by kernel_rfl) (by simp) ?_
                refine AllReadyIn.cons rfl (fun K hK => ?_) AllReadyIn.nil
                · rw [if_pos (by kernel_rfl)]
                  go_simp
                  refine hK _ _ ?_
                  clear hK K
                  refine wpAnyIn_ready (rs := [4]) (by kernel_rfl) (by simp) ?_
                  refine AllReadyIn.cons rfl (fun K hK => ?_) AllReadyIn.nil
                  · rw [if_pos (by kernel_rfl)]
                    go_simp
                    refine hK _ _ ?_
                    clear hK K
                    refine wpAnyIn_ready (rs := [5]) (by kernel_rfl) (by simp) ?_
                    refine AllReadyIn.cons rfl (fun K hK => ?_) AllReadyIn.nil
                    · rw [if_pos (by kernel_rfl)]
                      go_simp
                      refine hK _ _ ?_
                      clear hK K
                      refine wpAnyIn_ready (rs := [6]) (by kernel_rfl) (by simp) ?_
                      refine AllReadyIn.cons rfl (fun K hK => ?_) AllReadyIn.nil
                      · rw [if_pos (by kernel_rfl)]
                        go_simp
                        refine hK _ _ ?_
                        clear hK K
                        refine wpAnyIn_done (by kernel_rfl) ?_ _
                        exact ⟨rfl, ⟨_, _, _, _, _, _, _, _, _, _, _, _, _, _, _, _, _, _, rfl⟩, by first | rfl | rw [HJT.out]⟩
              refine AllReadyIn.cons rfl (fun K hK => ?_) AllReadyIn.nil
              · rw [if_pos (by kernel_rfl)]
                go_simp
                refine hK _ _ ?_
                clear hK K
                refine wpAnyIn_ready (rs := [0, 4]) (by kernel_rfl) (by simp) ?_
                refine AllReadyIn.cons rfl (fun K hK => ?_) ?_
                · rw [if_pos (by kernel_rfl)]
                  go_simp
                  refine hK _ _ ?_
                  clear hK K
                  refine wpAnyIn_ready (rs := [4]) (by kernel_rfl) (by simp) ?_
                  refine AllReadyIn.cons rfl (fun K hK => ?_) AllReadyIn.nil
                  · rw [if_pos (by kernel_rfl)]
                    go_simp
                    refine hK _ _ ?_
                    clear hK K
                    refine wpAnyIn_ready (rs := [5]) (by kernel_rfl) (by simp) ?_
                    refine AllReadyIn.cons rfl (fun K hK => ?_) AllReadyIn.nil
                    · rw [if_pos (by kernel_rfl)]
                      go_simp
                      refine hK _ _ ?_
                      clear hK K
                      refine wpAnyIn_ready (rs := [6]) (by kernel_rfl) (by simp) ?_
                      refine AllReadyIn.cons rfl (fun K hK => ?_) AllReadyIn.nil
                      · rw [if_pos (by kernel_rfl)]
                        go_simp
                        refine hK _ _ ?_
                        clear hK K
                        refine wpAnyIn_done (by kernel_rfl) ?_ _
                        exact ⟨rfl, ⟨_, _, _, _, _, _, _, _, _, _, _, _, _, _, _, _, _, _, rfl⟩, by first | rfl | rw [HJT.out]⟩
                refine AllReadyIn.cons rfl (fun K hK => ?_) AllReadyIn.nil
                · rw [if_pos (by kernel_rfl)]
                  go_simp
                  refine hK _ _ ?_
                  clear hK K
                  refine wpAnyIn_ready (rs := [0]) (by kernel_rfl) (by simp) ?_
                  refine AllReadyIn.cons rfl (fun K hK => ?_) AllReadyIn.nil
                  · rw [if_pos (by kernel_rfl)]
                    go_simp
                    refine hK _ _ ?_
                    clear hK K
                    refine wpAnyIn_ready (rs := [5]) (by kernel_rfl) (by simp) ?_
                    refine AllReadyIn.cons rfl (fun K hK => ?_) AllReadyIn.nil
                    · rw [if_pos (by kernel_rfl)]
                      go_simp
                      refine hK _ _ ?_
                      clear hK K
                      refine wpAnyIn_ready (rs := [6]) (by kernel_rfl) (by simp) ?_
                      refine AllReadyIn.cons rfl (fun K hK => ?_) AllReadyIn.nil
                      · rw [if_pos (by kernel_rfl)]
                        go_simp
                        refine hK _ _ ?_
                        clear hK K
                        refine wpAnyIn_done (by kernel_rfl) ?_ _
                        exact ⟨rfl, ⟨_, _, _, _, _, _, _, _, _, _, _, _, _, _, _, _, _, _, rfl⟩, by first | rfl | rw [HJT.out]⟩
            refine AllReadyIn.cons rfl (fun K hK => ?_) AllReadyIn.nil
            · rw [if_pos (by kernel_rfl)]
              go_simp
              refine hK _ _ ?_
              clear hK K
              refine wpAnyIn_ready (rs := [0, 1]) (by kernel_rfl) (by simp) ?_
              refine AllReadyIn.cons rfl (fun K hK => ?_) ?_
              · rw [if_pos (by kernel_rfl)]
                go_simp
                refine hK _ _ ?_
                clear hK K
                refine wpAnyIn_ready (rs := [1]) (by kernel_rfl) (by simp) ?_
                refine AllReadyIn.cons rfl (fun K hK => ?_) AllReadyIn.nil
                · rw [if_pos (by kernel_rfl)]
                  go_simp
                  refine hK _ _ ?_
                  clear hK K
                  refine wpAnyIn_ready (rs := [4]) (by kernel_rfl) (by simp) ?_
                  refine AllReadyIn.cons rfl (fun K hK => ?_) AllReadyIn.nil
                  · rw [if_pos (by kernel_rfl)]
                    go_simp
                    refine hK _ _ ?_
                    clear hK K
                    refine wpAnyIn_ready (rs := [5]) (by kernel_rfl) (by simp) ?_
                    refine AllReadyIn.cons rfl (fun K hK => ?_) AllReadyIn.nil
                    · rw [if_pos (by kernel_rfl)]
                      go_simp
                      refine hK _ _ ?_
                      clear hK K
                      refine wpAnyIn_ready (rs := [6]) (by kernel_rfl) (by simp) ?_
                      refine AllReadyIn.cons rfl (fun K hK => ?_) AllReadyIn.nil
                      · rw [if_pos (by kernel_rfl)]
                        go_simp
                        refine hK _ _ ?_
                        clear hK K
                        refine wpAnyIn_done (by kernel_rfl) ?_ _
                        exact ⟨rfl, ⟨_, _, _, _, _, _, _, _, _, _, _, _, _, _, _, _, _, _, rfl⟩, by first | rfl | rw [HJT.out]⟩
              refine AllReadyIn.cons rfl (fun K hK => ?_) AllReadyIn.nil
              · rw [if_pos (by kernel_rfl)]
                go_simp
                refine hK _ _ ?_
                clear hK K
                refine wpAnyIn_ready (rs := [0, 4]) (by kernel_rfl) (by simp) ?_
                refine AllReadyIn.cons rfl (fun K hK => ?_) ?_
                · rw [if_pos (by kernel_rfl)]
                  go_simp
                  refine hK _ _ ?_
                  clear hK K
                  refine wpAnyIn_ready (rs := [4]) (by kernel_rfl) (by simp) ?_
                  refine AllReadyIn.cons rfl (fun K hK => ?_) AllReadyIn.nil
                  · rw [if_pos (by kernel_rfl)]
                    go_simp
                    refine hK _ _ ?_
                    clear hK K
                    refine wpAnyIn_ready (rs := [5]) (by kernel_rfl) (by simp) ?_
                    refine AllReadyIn.cons rfl (fun K hK => ?_) AllReadyIn.nil
                    · rw [if_pos (by kernel_rfl)]
                      go_simp
                      refine hK _ _ ?_
                      clear hK K
                      refine wpAnyIn_ready (rs := [6]) (by kernel_rfl) (by simp) ?_
                      refine AllReadyIn.cons rfl (fun K hK => ?_) AllReadyIn.nil
                      · rw [if_pos (by kernel_rfl)]
                        go_simp
                        refine hK _ _ ?_
                        clear hK K
                        refine wpAnyIn_done (by kernel_rfl) ?_ _
                        exact ⟨rfl, ⟨_, _, _, _, _, _, _, _, _, _, _, _, _, _, _, _, _, _, rfl⟩, by first | rfl | rw [HJT.out]⟩
                refine AllReadyIn.cons rfl (fun K hK => ?_) AllReadyIn.nil
                · rw [if_pos (by kernel_rfl)]
                  go_simp
                  refine hK _ _ ?_
                  clear hK K
                  refine wpAnyIn_ready (rs := [0]) (by kernel_rfl) (by simp) ?_
                  refine AllReadyIn.cons rfl (fun K hK => ?_) AllReadyIn.nil
                  · rw [if_pos (by kernel_rfl)]
                    go_simp
                    refine hK _ _ ?_
                    clear hK K
                    refine wpAnyIn_ready (rs := [5]) (by kernel_rfl) (by simp) ?_
                    refine AllReadyIn.cons rfl (fun K hK => ?_) AllReadyIn.nil
                    · rw [if_pos (by kernel_rfl)]
                      go_simp
                      refine hK _ _ ?_
                      clear hK K
                      refine wpAnyIn_ready (rs := [6]) (by kernel_rfl) (by simp) ?_
                      refine AllReadyIn.cons rfl (fun K hK => ?_) AllReadyIn.nil
                      · rw [if_pos (by kernel_rfl)]
                        go_simp
                        refine hK _ _ ?_
                        clear hK K
                        refine wpAnyIn_done (by kernel_rfl) ?_ _
                        exact ⟨rfl, ⟨_, _, _, _, _, _, _, _, _, _, _, _, _, _, _, _, _, _, rfl⟩, by first | rfl | rw [HJT.out]⟩
        · rintro e a1 w1 ⟨rfl, ⟨v11, v12, v13, v14, v15, v16, v17, v18, v19, v20, v21, v22, v23, v24, v25, v26, v27, v28, rfl⟩, rfl⟩
          have hnt : ¬(true = false) := fun h => by cases h
          by_cases hz : b = 0 ∧ 0 < k
          · have HO2 : Hid (runL (vals pre ++ [(b, true)]) 0 0 = some (0, 0, 2)) := Lib.hid (by rw [HO.out, if_neg hnt, if_pos hz])
            have g1 : ((b : Int) == 0) = true := beq_iff_eq.2 (by omega)
            have g2 : decide (1 < (k : Int) + 1) = true := decide_eq_true (by omega)
            have g3 : decide (0 < k) = true := decide_eq_true hz.2
            clear HO hz hnt
            gi_wp2
            exact ⟨ko_drew (ko_set (ko_set (ko_set (ko_set (ko_set (KeepsOthers.refl _)))))), ⟨(0, 0, 2), by rw [HVS.out]; exact HO2.out, ⟨by go_simp, by go_simp, by go_simp⟩⟩, (((((HB.out.setCell (p := ⟨w.heap.size + 1 + 1 + 1, 0, none⟩) (by dsimp only; omega) _).setCell (p := ⟨w.heap.size + 1 + 1 + 1 + 1, 0, none⟩) (by dsimp only; omega) _).setCell (p := ⟨w.heap.size, 0, none⟩) (by dsimp only; omega) _).setCell (p := ⟨w.heap.size + 1, 0, none⟩) (by dsimp only; omega) _).setCell (p := ⟨w.heap.size + 1 + 1, 0, none⟩) (by dsimp only; omega) _).drew, rfl⟩
          · have HO2 : Hid (runL (vals pre ++ [(b, true)]) 0 0 = some (a', k + 1, 0)) := Lib.hid (by rw [HO.out, if_neg hnt, if_neg hz])
            have hz2 : ((b : Int) == 0) = false ∨ ((b : Int) == 0) = true ∧ decide (1 < (k : Int) + 1) = false ∧ decide (0 < k) = false := by
              by_cases h : b = 0
              · exact .inr ⟨beq_iff_eq.2 (by omega), decide_eq_false (by omega), decide_eq_false (by omega)⟩
              · exact .inl (beq_eq_false_iff_ne.2 (by omega))
            clear HO hz hnt
            rcases hz2 with g1 | ⟨g1, g2, g3⟩
            · gi_wp2
              refine wpIn_region_any (by kernel_rfl) ?_
              change wpAnyIn _ _ _ _ _ _ 5 _ _ (((W.setCell ⟨w.heap.size + 1 + 1 + 1, 0, none⟩ (.int .u64 (a' : Nat))).setCell ⟨w.heap.size + 1 + 1 + 1 + 1, 0, none⟩ (.int .i64 ((k : Int) + 1))).drew.drew)
              refine wpAnyIn_ready (rs := [0, 1]) (by kernel_rfl) (by simp) ?_
              refine AllReadyIn.cons rfl (fun K hK => ?_) ?_
              · rw [if_pos (by kernel_rfl)]
                go_simp
                refine hK _ _ ?_
                clear hK K
                refine wpAnyIn_ready (rs := [1, 2]) (by kernel_rfl) (by simp) ?_
                refine AllReadyIn.cons rfl (fun K hK => ?_) ?_
                · rw [if_pos (by kernel_rfl)]
                  go_simp
                  refine hK _ _ ?_
                  clear hK K
                  refine wpAnyIn_ready (rs := [2]) (by kernel_rfl) (by simp) ?_
                  refine AllReadyIn.cons rfl (fun K hK => ?_) AllReadyIn.nil
                  · rw [if_pos (by kernel_rfl)]
                    go_simp
                    refine hK _ _ ?_
                    clear hK K
                    refine wpAnyIn_ready (rs := [3]) (by kernel_rfl) (by simp) ?_
                    refine AllReadyIn.cons rfl (fun K hK => ?_) AllReadyIn.nil
                    · rw [if_pos (by kernel_rfl)]
                      go_simp
                      refine hK _ _ ?_
                      clear hK K
                      refine wpAnyIn_ready (rs := [4]) (by kernel_rfl) (by simp) ?_
                      refine AllReadyIn.cons rfl (fun K hK => ?_) AllReadyIn.nil
                      · rw [if_pos (by kernel_rfl)]
                        go_simp
                        refine hK _ _ ?_
                        clear hK K
                        refine wpAnyIn_done (by kernel_rfl) ?_ _
                        gi_wp2
                        exact ⟨ko_drew (ko_drew (ko_set (ko_set (ko_set (ko_set (ko_set (KeepsOthers.refl _))))))), ⟨(a', k + 1, 0), by rw [HVS.out]; exact HO2.out, ⟨by go_simp, by rw [show ((k + 1 : Nat) : Int) = (k : Int) + 1 from by omega]; go_simp, by go_simp⟩⟩, (((((HB.out.setCell (p := ⟨w.heap.size + 1 + 1 + 1, 0, none⟩) (by dsimp only; omega) _).setCell (p := ⟨w.heap.size + 1 + 1 + 1 + 1, 0, none⟩) (by dsimp only; omega) _).setCell (p := ⟨w.heap.size, 0, none⟩) (by dsimp only; omega) _).setCell (p := ⟨w.heap.size + 1, 0, none⟩) (by dsimp only; omega) _).setCell (p := ⟨w.heap.size + 1 + 1, 0, none⟩) (by dsimp only; omega) _).drew.drew, rfl⟩
                refine AllReadyIn.cons rfl (fun K hK => ?_) AllReadyIn.nil
                · rw [if_pos (by kernel_rfl)]
                  go_simp
                  refine hK _ _ ?_
                  clear hK K
                  refine wpAnyIn_ready (rs := [1]) (by kernel_rfl) (by simp) ?_
                  refine AllReadyIn.cons rfl (fun K hK => ?_) AllReadyIn.nil
                  · rw [if_pos (by kernel_rfl)]
                    go_simp
                    refine hK _ _ ?_
                    clear hK K
                    refine wpAnyIn_ready (rs := [3]) (by kernel_rfl) (by simp) ?_
                    refine AllReadyIn.cons rfl (fun K hK => ?_) AllReadyIn.nil
                    · rw [if_pos (by kernel_rfl)]
                      go_simp
                      refine hK _ _ ?_
                      clear hK K
                      refine wpAnyIn_ready (rs := [4]) (by kernel_rfl) (by simp) ?_
                      refine AllReadyIn.cons rfl (fun K hK => ?_) AllReadyIn.nil
                      · rw [if_pos (by kernel_rfl)]
                        go_simp
                        refine hK _ _ ?_
                        clear hK K
                        refine wpAnyIn_done (by kernel_rfl) ?_ _
                        gi_wp2
                        exact ⟨ko_drew (ko_drew (ko_set (ko_set (ko_set (ko_set (ko_set (KeepsOthers.refl _))))))), ⟨(a', k + 1, 0), by rw [HVS.out]; exact HO2.out, ⟨by go_simp, by rw [show ((k + 1 : Nat) : Int) = (k : Int) + 1 from by omega]; go_simp, by go_simp⟩⟩, (((((HB.out.setCell (p := ⟨w.heap.size + 1 + 1 + 1, 0, none⟩) (by dsimp only; omega) _).setCell (p := ⟨w.heap.size + 1 + 1 + 1 + 1, 0, none⟩) (by dsimp only; omega) _).setCell (p := ⟨w.heap.size, 0, none⟩) (by dsimp only; omega) _).setCell (p := ⟨w.heap.size + 1, 0, none⟩) (by dsimp only; omega) _).setCell (p := ⟨w.heap.size + 1 + 1, 0, none⟩) (by dsimp only; omega) _).drew.drew, rfl⟩
              refine AllReadyIn.cons rfl (fun K hK => ?_) AllReadyIn.nil
              · rw [if_pos (by kernel_rfl)]
                go_simp
                refine hK _ _ ?_
                clear hK K
                refine wpAnyIn_ready (rs := [0]) (by kernel_rfl) (by simp) ?_
                refine AllReadyIn.cons rfl (fun K hK => ?_) AllReadyIn.nil
                · rw [if_pos (by kernel_rfl)]
                  go_simp
                  refine hK _ _ ?_
                  clear hK K
                  refine wpAnyIn_ready (rs := [2]) (by kernel_rfl) (by simp) ?_
                  refine AllReadyIn.cons rfl (fun K hK => ?_) AllReadyIn.nil
                  · rw [if_pos (by kernel_rfl)]
                    go_simp
                    refine hK _ _ ?_
                    clear hK K
                    refine wpAnyIn_ready (rs := [3]) (by kernel_rfl) (by simp) ?_
                    refine AllReadyIn.cons rfl (fun K hK => ?_) AllReadyIn.nil
                    · rw [if_pos (by kernel_rfl)]
                      go_simp
                      refine hK _ _ ?_
                      clear hK K
                      refine wpAnyIn_ready (rs := [4]) (by kernel_rfl) (by simp) ?_
                      refine AllReadyIn.cons rfl (fun K hK => ?_) AllReadyIn.nil
                      · rw [if_pos (by kernel_rfl)]
                        go_simp
                        refine hK _ _ ?_
                        clear hK K
                        refine wpAnyIn_done (by kernel_rfl) ?_ _
                        gi_wp2
                        exact ⟨ko_drew (ko_drew (ko_set (ko_set (ko_set (ko_set (ko_set (KeepsOthers.refl _))))))), ⟨(a', k + 1, 0), by rw [HVS.out]; exact HO2.out, ⟨by go_simp, by rw [show ((k + 1 : Nat) : Int) = (k : Int) + 1 from by omega]; go_simp, by go_simp⟩⟩, (((((HB.out.setCell (p := ⟨w.heap.size + 1 + 1 + 1, 0, none⟩) (by dsimp only; omega) _).setCell (p := ⟨w.heap.size + 1 + 1 + 1 + 1, 0, none⟩) (by dsimp only; omega) _).setCell (p := ⟨w.heap.size, 0, none⟩) (by dsimp only; omega) _).setCell (p := ⟨w.heap.size + 1, 0, none⟩) (by dsimp only; omega) _).setCell (p := ⟨w.heap.size + 1 + 1, 0, none⟩) (by dsimp only; omega) _).drew.drew, rfl⟩
            · gi_wp2
              refine wpIn_region_any (by kernel_rfl) ?_
              change wpAnyIn _ _ _ _ _ _ 5 _ _ (((W.setCell ⟨w.heap.size + 1 + 1 + 1, 0, none⟩ (.int .u64 (a' : Nat))).setCell ⟨w.heap.size + 1 + 1 + 1 + 1, 0, none⟩ (.int .i64 ((k : Int) + 1))).drew.drew)
              refine wpAnyIn_ready (rs := [0, 1]) (by kernel_rfl) (by simp) ?_
              refine AllReadyIn.cons rfl (fun K hK => ?_) ?_
              · rw [if_pos (by kernel_rfl)]
                go_simp
                refine hK _ _ ?_
                clear hK K
                refine wpAnyIn_ready (rs := [1, 2]) (by kernel_rfl) (by simp) ?_
                refine AllReadyIn.cons rfl (fun K hK => ?_) ?_
                · rw [if_pos (by kernel_rfl)]
                  go_simp
                  refine hK _ _ ?_
                  clear hK K
                  refine wpAnyIn_ready (rs := [2]) (by kernel_rfl) (by simp) ?_
                  refine AllReadyIn.cons rfl (fun K hK => ?_) AllReadyIn.nil
                  · rw [if_pos (by kernel_rfl)]
                    go_simp
                    refine hK _ _ ?_
                    clear hK K
                    refine wpAnyIn_ready (rs := [3]) (by kernel_rfl) (by simp) ?_
                    refine AllReadyIn.cons rfl (fun K hK => ?_) AllReadyIn.nil
                    · rw [if_pos (by kernel_rfl)]
                      go_simp
                      refine hK _ _ ?_
                      clear hK K
                      refine wpAnyIn_ready (rs := [4]) (by kernel_rfl) (by simp) ?_
                      refine AllReadyIn.cons rfl (fun K hK => ?_) AllReadyIn.nil
                      · rw [if_pos (by kernel_rfl)]
                        go_simp
                        refine hK _ _ ?_
                        clear hK K
                        refine wpAnyIn_done (by kernel_rfl) ?_ _
                        gi_wp2
                        exact ⟨ko_drew (ko_drew (ko_set (ko_set (ko_set (ko_set (ko_set (KeepsOthers.refl _))))))), ⟨(a', k + 1, 0), by rw [HVS.out]; exact HO2.out, ⟨by go_simp, by rw [show ((k + 1 : Nat) : Int) = (k : Int) + 1 from by omega]; go_simp, by go_simp⟩⟩, (((((HB.out.setCell (p := ⟨w.heap.size + 1 + 1 + 1, 0, none⟩) (by dsimp only; omega) _).setCell (p := ⟨w.heap.size + 1 + 1 + 1 + 1, 0, none⟩) (by dsimp only; omega) _).setCell (p := ⟨w.heap.size, 0, none⟩) (by dsimp only; omega) _).setCell (p := ⟨w.heap.size + 1, 0, none⟩) (by dsimp only; omega) _).setCell (p := ⟨w.heap.size + 1 + 1, 0, none⟩) (by dsimp only; omega) _).drew.drew, rfl⟩
                refine AllReadyIn.cons rfl (fun K hK => ?_) AllReadyIn.nil
                · rw [if_pos (by kernel_rfl)]
                  go_simp
                  refine hK _ _ ?_
                  clear hK K
                  refine wpAnyIn_ready (rs := [1]) (by kernel_rfl) (by simp) ?_
                  refine AllReadyIn.cons rfl (fun K hK => ?_) AllReadyIn.nil
                  · rw [if_pos (by kernel_rfl)]
                    go_simp
                    refine hK _ _ ?_
                    clear hK K
                    refine wpAnyIn_ready (rs := [3]) (by kernel_rfl) (by simp) ?_
                    refine AllReadyIn.cons rfl (fun K hK => ?_) AllReadyIn.nil
                    · rw [if_pos (by kernel_rfl)]
                      go_simp
                      refine hK _ _ ?_
                      clear hK K
                      refine wpAnyIn_ready (rs := [4]) (by kernel_rfl) (by simp) ?_
                      refine AllReadyIn.cons rfl (fun K hK => ?_) AllReadyIn.nil
                      · rw [if_pos (by kernel_rfl)]
                        go_simp
                        refine hK _ _ ?_
                        clear hK K
                        refine wpAnyIn_done (by kernel_rfl) ?_ _
                        gi_wp2
                        exact ⟨ko_drew (ko_drew (ko_set (ko_set (ko_set (ko_set (ko_set (KeepsOthers.refl _))))))), ⟨(a', k + 1, 0), by rw [HVS.out]; exact HO2.out, ⟨by go_simp, by rw [show ((k + 1 : Nat) : Int) = (k : Int) + 1 from by omega]; go_simp, by go_simp⟩⟩, (((((HB.out.setCell (p := ⟨w.heap.size + 1 + 1 + 1, 0, none⟩) (by dsimp only; omega) _).setCell (p := ⟨w.heap.size + 1 + 1 + 1 + 1, 0, none⟩) (by dsimp only; omega) _).setCell (p := ⟨w.heap.size, 0, none⟩) (by dsimp only; omega) _).setCell (p := ⟨w.heap.size + 1, 0, none⟩) (by dsimp only; omega) _).setCell (p := ⟨w.heap.size + 1 + 1, 0, none⟩) (by dsimp only; omega) _).drew.drew, rfl⟩
              refine AllReadyIn.cons rfl (fun K hK => ?_) AllReadyIn.nil
              · rw [if_pos (by kernel_rfl)]
                go_simp
                refine hK _ _ ?_
                clear hK K
                refine wpAnyIn_ready (rs := [0]) (by kernel_rfl) (by simp) ?_
                refine AllReadyIn.cons rfl (fun K hK => ?_) AllReadyIn.nil
                · rw [if_pos (by kernel_rfl)]
                  go_simp
                  refine hK _ _ ?_
                  clear hK K
                  refine wpAnyIn_ready (rs := [2]) (by kernel_rfl) (by simp) ?_
                  refine AllReadyIn.cons rfl (fun K hK => ?_) AllReadyIn.nil
                  · rw [if_pos (by kernel_rfl)]
                    go_simp
                    refine hK _ _ ?_
                    clear hK K
                    refine wpAnyIn_ready (rs := [3]) (by kernel_rfl) (by simp) ?_
                    refine AllReadyIn.cons rfl (fun K hK => ?_) AllReadyIn.nil
                    · rw [if_pos (by kernel_rfl)]
                      go_simp
                      refine hK _ _ ?_
                      clear hK K
                      refine wpAnyIn_ready (rs := [4]) (by kernel_rfl) (by simp) ?_
                      refine AllReadyIn.cons rfl (fun K hK => ?_) AllReadyIn.nil
                      · rw [if_pos (by kernel_rfl)]
                        go_simp
                        refine hK _ _ ?_
                        clear hK K
                        refine wpAnyIn_done (by kernel_rfl) ?_ _
                        gi_wp2
                        exact ⟨ko_drew (ko_drew (ko_set (ko_set (ko_set (ko_set (ko_set (KeepsOthers.refl _))))))), ⟨(a', k + 1, 0), by rw [HVS.out]; exact HO2.out, ⟨by go_simp, by rw [show ((k + 1 : Nat) : Int) = (k : Int) + 1 from by omega]; go_simp, by go_simp⟩⟩, (((((HB.out.setCell (p := ⟨w.heap.size + 1 + 1 + 1, 0, none⟩) (by dsimp only; omega) _).setCell (p := ⟨w.heap.size + 1 + 1 + 1 + 1, 0, none⟩) (by dsimp only; omega) _).setCell (p := ⟨w.heap.size, 0, none⟩) (by dsimp only; omega) _).setCell (p := ⟨w.heap.size + 1, 0, none⟩) (by dsimp only; omega) _).setCell (p := ⟨w.heap.size + 1 + 1, 0, none⟩) (by dsimp only; omega) _).drew.drew, rfl⟩
  case done =>
    rintro D ys W hD rfl ⟨hS, hB, hrun⟩ hK
    have hr : takeB s = (0, 0, 1) := by rw [take_of_run, ← vals_all s, hrun]; rfl
    have HR := Lib.hid hr
    have HB := Lib.hid hB
    have HD := Lib.hid hD
    obtain ⟨r0, r1, r2, cn, ci, f0, f1, f2, fn, fi⟩ := hS
    clear hr hrun hB hD hT0 u3
    gi_wp2
    go_wp2
    have hD' := HD.out
    obtain ⟨w9, hw9⟩ : ∃ w9, (((W.setCell ⟨w.heap.size, 0, none⟩ (.int .u64 0)).setCell ⟨w.heap.size + 1, 0, none⟩ (.int .i64 0)).setCell ⟨w.heap.size + 1 + 1, 0, none⟩ (.int .i64 1)) = w9 := ⟨_, rfl⟩
    have q0 : w9.cell? ⟨w.heap.size, 0, none⟩ = some (.int .u64 0) := by rw [← hw9]; clear hw9; go_simp
    have q1 : w9.cell? ⟨w.heap.size + 1, 0, none⟩ = some (.int .i64 0) := by rw [← hw9]; clear hw9; go_simp
    have q2 : w9.cell? ⟨w.heap.size + 1 + 1, 0, none⟩ = some (.int .i64 1) := by rw [← hw9]; clear hw9; go_simp
    have hBf : Below w.heap.size w w9 := by
      rw [← hw9]
      exact ((HB.out.setCell (p := ⟨w.heap.size, 0, none⟩) (Nat.le_refl _) _).setCell (p := ⟨w.heap.size + 1, 0, none⟩) (Nat.le_succ _) _).setCell (p := ⟨w.heap.size + 1 + 1, 0, none⟩) (by dsimp only; omega) _
    have hK9 : w9.heap[D]? = some (.deferred (some [])) := by
      rw [← hw9]
      refine (Below.heap_setCell _ _ _ _ ?_).trans ((Below.heap_setCell _ _ _ _ ?_).trans ((Below.heap_setCell _ _ _ _ ?_).trans hK)) <;> (dsimp only; omega)
    rw [hw9]
    clear hw9 r0 r1 r2 cn ci f0 f1 f2 fn fi
    refine ⟨by simp, .inl ⟨_, _, rfl, run_takeDeferred hK9, .tuple #[.int .u64 0, .int .i64 0, .int .i64 1], ?_, by rw [HR.out]; rfl, hBf.trans (belowK_b (w := w) (Nat.le_refl _) w9 D _ _ (by omega) hK9 rfl rfl)⟩⟩
    have hb : Below W2.heap.size w9 _ := belowK_b (w := W2) (Nat.le_refl _) w9 D _ (.deferred none) hD' hK9 rfl rfl
    have z0 := (hb.cell (p := ⟨w.heap.size, 0, none⟩) (by dsimp only; omega)).trans q0
    have z1 := (hb.cell (p := ⟨w.heap.size + 1, 0, none⟩) (by dsimp only; omega)).trans q1
    have z2 := (hb.cell (p := ⟨w.heap.size + 1 + 1, 0, none⟩) (by dsimp only; omega)).trans q2
    clear q0 q1 q2
    simp only [results, Tryd.f58]
    go_simp
  case stop =>
    rintro D c pre W hD hpre ⟨⟨t, ht, hDn⟩, hB, rfl⟩ hK
    have hr : takeB s = t := by
      obtain ⟨m, hm⟩ := hpre
      rw [take_of_run, ← vals_all s, ← hm]
      unfold vals
      rw [List.map_append]
      have := runL_more (vals pre) (m.map (·.1)) 0 0 t ht
      unfold vals at this
      rw [this]
      rfl
    have HR := Lib.hid hr
    have HB := Lib.hid hB
    obtain ⟨r0, r1, r2⟩ := hDn
    clear hr hB hpre ht hT0 u3
    gi_wp2
    refine ⟨by simp, .inl ⟨_, _, rfl, run_takeDeferred hK, tripV t, ?_, by rw [HR.out], HB.out.trans (belowK_b (w := w) (Nat.le_refl _) W D _ _ (by omega) hK rfl rfl)⟩⟩
    have hb : Below W2.heap.size W _ := belowK_b (w := W2) (Nat.le_refl _) W D _ (.deferred none) hD hK rfl rfl
    have z0 := (hb.cell (p := ⟨w.heap.size, 0, none⟩) (by dsimp only; omega)).trans r0
    have z1 := (hb.cell (p := ⟨w.heap.size + 1, 0, none⟩) (by dsimp only; omega)).trans r1
    have z2 := (hb.cell (p := ⟨w.heap.size + 1 + 1, 0, none⟩) (by dsimp only; omega)).trans r2
    clear r0 r1 r2
    simp only [results, Tryd.f58, tripV]
    go_simp
end Go.Proofs.YthlajcohbpjgkaaDoor
