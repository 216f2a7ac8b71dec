/-
  bloom.Add: THE WALK.
-/
import Derived.Test.YtingloamfpibaaaBStop
import Derived.RangeFuncBox
namespace Go.Proofs.Ytingloamfpibaaa
open Go.RowKit Go.Shelf Go.Proofs.Mem
attribute [local go_sem] Oper.semAt_some
set_option linter.unusedVariables false

/-- What lies there between two rounds. -/
structure AddS (X bi h : Nat) (d : ByteArray) (cap : Nat) (cur : ByteArray) (W : World) : Prop where
  c0 : W.cell? ⟨X, 0, none⟩ = some (.int .i64 bi)
  c1 : W.cell? ⟨X, 1, none⟩ = some (.int .i64 h)
  c2 : W.cell? ⟨X, 2, none⟩ = some (.string d)
  cf : W.frozen? ⟨X, 2, none⟩ = false
  d0 : W.cell? ⟨X + 1, 0, none⟩ = some (.int .i64 0)
  d1 : W.cell? ⟨X + 1, 1, none⟩ = some (.int .i64 0)
  d2 : W.cell? ⟨X + 1, 2, none⟩ = some (.string ⟨#[]⟩)
  df0 : W.frozen? ⟨X + 1, 0, none⟩ = false
  df1 : W.frozen? ⟨X + 1, 1, none⟩ = false
  df2 : W.frozen? ⟨X + 1, 2, none⟩ = false
  u0 : W.cell? ⟨X + 1 + 1 + 1, 0, none⟩ = some (.slice (some ⟨X + 1 + 1, 0, none⟩) d.size cap)
  hy : Bytes W (X + 1 + 1) cur
theorem AddS.kept {X bi h : Nat} {d : ByteArray} {cap : Nat} {cur : ByteArray} {A B : World} {row : Option Nat} (hs : AddS X bi h d cap cur A) (hg : A.grownBy B row) (hr : ∀ r, row = some r → ∃ o : Obj, A.heap[r]? = some o ∧ o.isCells = false) : AddS X bi h d cap cur B :=
  ⟨cell_kept hs.c0 hg hr, cell_kept hs.c1 hg hr, cell_kept hs.c2 hg hr, (frozen_kept hs.c2 hg hr).trans hs.cf, cell_kept hs.d0 hg hr, cell_kept hs.d1 hg hr, cell_kept hs.d2 hg hr,
    (frozen_kept hs.d0 hg hr).trans hs.df0, (frozen_kept hs.d1 hg hr).trans hs.df1, (frozen_kept hs.d2 hg hr).trans hs.df2, cell_kept hs.u0 hg hr, fun j hj => ⟨cell_kept (hs.hy j hj).1 hg hr, (frozen_kept (hs.hy j hj).1 hg hr).trans (hs.hy j hj).2⟩⟩

set_option maxHeartbeats 2000000 in
theorem badd_in (e h : Nat) (d key : ByteArray) (w : World) (he : e ≤ 10) (hh : h ≤ 8) (hd : d.size = 8 * 2 ^ e) :
    CallsIn Fence.wide 10 Try.prog 14 #[.agg #[.int .i64 ((64 * 2 ^ e : Nat) : Int), .int .i64 h, .string d], .string key] w fun e' w' => e' = .returned (.agg #[.int .i64 ((64 * 2 ^ e : Nat) : Int), .int .i64 h, .string (addF key (64 * 2 ^ e) h d)]) ∧ Below w.heap.size w w' := by
  obtain ⟨bw, cp, hbw, kc⟩ := conv_law
  obtain ⟨bi, hbi⟩ : ∃ bi, bi = 64 * 2 ^ e := ⟨_, rfl⟩
  have hp1 : 2 ^ e ≤ 2 ^ 10 := Nat.pow_le_pow_right (by decide) he
  have hp0 : 1 ≤ 2 ^ e := Nat.one_le_two_pow
  have hb64 : 64 ≤ bi := by omega
  have hb65 : bi ≤ 65536 := by omega
  have hdb : d.size * 8 = bi := by omega
  obtain ⟨W0, hW0⟩ : ∃ W0, (w.alloc (.cells #[.int .i64 bi, .int .i64 h, .string d] 23)).alloc (.cells #[.int .i64 0, .int .i64 0, .string ⟨#[]⟩] 23) = W0 := ⟨_, rfl⟩
  have hsz : W0.heap.size = w.heap.size + 1 + 1 := by rw [← hW0]; simp only [World.size_alloc]
  have k0 : W0.cell? ⟨w.heap.size, 0, none⟩ = some (.int .i64 bi) := by rw [← hW0]; clear hsz hW0; go_simp
  have k1 : W0.cell? ⟨w.heap.size, 1, none⟩ = some (.int .i64 h) := by rw [← hW0]; clear hsz hW0; go_simp
  have k2 : W0.cell? ⟨w.heap.size, 2, none⟩ = some (.string d) := by rw [← hW0]; clear hsz hW0; go_simp
  have kf : ∀ o, W0.frozen? ⟨w.heap.size, o, none⟩ = false := by rw [← hW0]; clear hsz hW0; intro o; go_simp
  have r0 : W0.cell? ⟨w.heap.size + 1, 0, none⟩ = some (.int .i64 0) := by rw [← hW0]; clear hsz hW0; go_simp
  have r1 : W0.cell? ⟨w.heap.size + 1, 1, none⟩ = some (.int .i64 0) := by rw [← hW0]; clear hsz hW0; go_simp
  have r2 : W0.cell? ⟨w.heap.size + 1, 2, none⟩ = some (.string ⟨#[]⟩) := by rw [← hW0]; clear hsz hW0; go_simp
  have rf : ∀ o, W0.frozen? ⟨w.heap.size + 1, o, none⟩ = false := by rw [← hW0]; clear hsz hW0; intro o; go_simp
  have hB0 : Below w.heap.size w W0 := by rw [← hW0]; clear hsz hW0; go_grown
  obtain ⟨W1, hW1⟩ : ∃ W1, bw W0 d = W1 := ⟨_, rfl⟩
  obtain ⟨hb1, hy1, hs1⟩ := hbw W0 d
  rw [hW1] at hb1 hy1 hs1
  rw [hsz] at hy1 hs1
  have hBx := Lib.hid (hB0.trans (hb1.mono (by omega)))
  have a0 := (hb1.cell (p := ⟨w.heap.size, 0, none⟩) (by dsimp only; omega)).trans k0
  have a1 := (hb1.cell (p := ⟨w.heap.size, 1, none⟩) (by dsimp only; omega)).trans k1
  have a2 := (hb1.cell (p := ⟨w.heap.size, 2, none⟩) (by dsimp only; omega)).trans k2
  have af : ∀ o, W1.frozen? ⟨w.heap.size, o, none⟩ = false := fun o => (hb1.frozen (p := ⟨w.heap.size, o, none⟩) (by dsimp only; omega)).trans (kf o)
  have b0 := (hb1.cell (p := ⟨w.heap.size + 1, 0, none⟩) (by dsimp only; omega)).trans r0
  have b1 := (hb1.cell (p := ⟨w.heap.size + 1, 1, none⟩) (by dsimp only; omega)).trans r1
  have b2 := (hb1.cell (p := ⟨w.heap.size + 1, 2, none⟩) (by dsimp only; omega)).trans r2
  have bf : ∀ o, W1.frozen? ⟨w.heap.size + 1, o, none⟩ = false := fun o => (hb1.frozen (p := ⟨w.heap.size + 1, o, none⟩) (by dsimp only; omega)).trans (rf o)
  have Hy1 := Lib.hid hy1
  have kc0 := kc W0 d
  rw [hW1, hsz] at kc0
  generalize cp W0 d = cap at *
  have HBI := Lib.hid hbi
  have HDB := Lib.hid hdb
  rw [← hbi]
  clear k0 k1 k2 kf r0 r1 r2 rf hb1 hy1 hB0 kc hbw hsz hW1 hbi hdb hp1 hp0 hd
  subst hW0
  refine callsIn_of_wp_marks Try.func14 rfl trivial ?_ rfl
  simp only [Try.ntmps14, List.size_toArray, List.length_cons, List.length_nil, Nat.reduceAdd, Nat.reduceSub, Array.replicate_succ, Array.replicate_zero, List.push_toArray, List.append_toArray, List.nil_append, List.cons_append]
  refine wpIn_wide.2 ?_
  go_wp2_with (go_at_call 29; refine Calls.mono (marks_any _ _ _ _ _) ?_; rintro e w' ⟨rfl, rfl⟩)
  obtain ⟨W2, hW2⟩ : ∃ W2, (((W1.alloc (.cells #[.slice (some ⟨w.heap.size + 1 + 1, 0, none⟩) d.size cap] 47)).alloc (.cells #[.int .i64 bi, .int .i64 h, .string d] 52)).alloc (.cells #[.string key] 9)) = W2 := ⟨_, rfl⟩
  have hBB : Below W1.heap.size W1 W2 := by rw [← hW2]; clear hW2; go_grown
  have hsz : W2.heap.size = w.heap.size + 6 := by rw [← hW2]; simp only [World.size_alloc, hs1]
  have u0 : W2.cell? ⟨W1.heap.size, 0, none⟩ = some (.slice (some ⟨w.heap.size + 1 + 1, 0, none⟩) d.size cap) := by rw [← hW2]; clear hW2 hsz; go_simp
  have u1 : W2.cell? ⟨W1.heap.size + 1, 0, none⟩ = some (.int .i64 bi) := by rw [← hW2]; clear hW2 hsz; go_simp
  have u2 : W2.cell? ⟨W1.heap.size + 1, 1, none⟩ = some (.int .i64 h) := by rw [← hW2]; clear hW2 hsz; go_simp
  have u3 : W2.cell? ⟨W1.heap.size + 1 + 1, 0, none⟩ = some (.string key) := by rw [← hW2]; clear hW2 hsz; go_simp
  rw [hW2]
  rw [hs1] at u0 u1 u2 u3
  have hs1' : W1.heap.size = w.heap.size + 1 + 1 + 1 := hs1
  have hB2 : Below w.heap.size w W2 := hBx.out.trans (hBB.mono (by omega))
  have c0 := (hBB.cell (p := ⟨w.heap.size, 0, none⟩) (by dsimp only; omega)).trans a0
  have c1 := (hBB.cell (p := ⟨w.heap.size, 1, none⟩) (by dsimp only; omega)).trans a1
  have c2 := (hBB.cell (p := ⟨w.heap.size, 2, none⟩) (by dsimp only; omega)).trans a2
  have cf := (hBB.frozen (p := ⟨w.heap.size, 2, none⟩) (by dsimp only; omega)).trans (af 2)
  have d0 := (hBB.cell (p := ⟨w.heap.size + 1, 0, none⟩) (by dsimp only; omega)).trans b0
  have d1 := (hBB.cell (p := ⟨w.heap.size + 1, 1, none⟩) (by dsimp only; omega)).trans b1
  have d2 := (hBB.cell (p := ⟨w.heap.size + 1, 2, none⟩) (by dsimp only; omega)).trans b2
  have df0 := (hBB.frozen (p := ⟨w.heap.size + 1, 0, none⟩) (by dsimp only; omega)).trans (bf 0)
  have df1 := (hBB.frozen (p := ⟨w.heap.size + 1, 1, none⟩) (by dsimp only; omega)).trans (bf 1)
  have df2 := (hBB.frozen (p := ⟨w.heap.size + 1, 2, none⟩) (by dsimp only; omega)).trans (bf 2)
  have hy := Hy1.out.on hBB (by omega)
  clear a0 a1 a2 af b0 b1 b2 bf Hy1 hBB hW2 hBx hs1
  refine (wpIn_wide (n := 9)).1 ?_
  refine wpIn_rangeFunc_ownF rfl (by omega) (gf := 36) (lb := #[.pointer (some ⟨w.heap.size + 1 + 1 + 1 + 1 + 1, 0, none⟩), .pointer (some ⟨w.heap.size + 1 + 1 + 1 + 1, 0, none⟩)]) rfl trivial (enters_of Try.func36 (by kernel_rfl) rfl)
    (marks_stops (w.heap.size + 1 + 1 + 1 + 1 + 1) (w.heap.size + 1 + 1 + 1 + 1) e h key W2 he hh (by omega) (by omega) u3 (by rw [← HBI.out]; exact u1) u2) (fun h k => cellK_t h k) (cellK_b (by omega)) (Below.refl _ _) (fun _ => rfl)
    (fun pre W => AddS w.heap.size bi h d cap (orX pre d) W ∧ Below w.heap.size w W)
    (fun c pre W => False)
    (OwnFrom.and (show OwnFrom W2.heap.size (fun (pre : List (Mark key (64 * 2 ^ e) h)) W => AddS w.heap.size bi h d cap (orX pre d) W) from Own.from (fun s A B row (hs : AddS w.heap.size bi h d cap (orX s d) A) hg hr => (AddS.kept hs hg hr : AddS w.heap.size bi h d cap (orX s d) B)) _) (ownFrom_below (Nat.le_refl _) (by omega)))
    (fun c => ownFrom_pure _ _)
    ⟨⟨c0, c1, c2, cf, d0, d1, d2, df0, df1, df2, u0, hy⟩, hB2⟩
    (fun x => { tmps := #[.agg #[.int .i64 bi, .int .i64 h, .string d], .string key, .pointer (some ⟨w.heap.size, 0, none⟩), undef, .pointer (some ⟨w.heap.size + 1, 0, none⟩), .pointer (some ⟨w.heap.size + 1 + 1 + 1, 0, none⟩), .int .i64 (x.1.1 : Nat), .int .u8 (x.1.2 : Nat), .pointer (some ⟨w.heap.size, 2, none⟩), .string d, .slice (some ⟨w.heap.size + 1 + 1, 0, none⟩) d.size cap, .agg #[.int .i64 bi, .int .i64 h, .string d], .agg #[.int .i64 bi, .int .i64 h, .string d], .string key,
      .func (.func 36) #[] #[.pointer (some ⟨w.heap.size + 1 + 1 + 1 + 1 + 1, 0, none⟩), .pointer (some ⟨w.heap.size + 1 + 1 + 1 + 1, 0, none⟩)], .int .i64 (x.1.1 : Nat), .int .u8 (x.1.2 : Nat), undef, undef, undef, undef, undef, undef, undef, undef, undef, undef, undef], defers := [] }) ?assign ?body ?done ?stop
  case assign =>
    intro l x W K hK
    simp only [encM]
    gi_wp2
    exact hK
  case body =>
    rintro l pre x W ⟨hS, hB⟩ _
    obtain ⟨p, hp, hx1, hx2⟩ := mark_is (by rw [← HBI.out]; omega) x
    have hbv : x.1.2 < 256 := by rw [hx2]; exact pow_byte p
    have hiv : x.1.1 < d.size := by have := HDB.out; have := HBI.out; omega
    have hnx := orX_snoc pre x d
    obtain ⟨cur, hcur⟩ : ∃ cur, cur = orX pre d := ⟨_, rfl⟩
    have hcs : cur.size = d.size := by rw [hcur, orX_size]
    rw [← hcur] at hS hnx
    have hxx : x.1 = (x.1.1, x.1.2) := rfl
    rw [hxx] at hnx
    generalize x.1.1 = i at *
    generalize x.1.2 = b at *
    have HNX := Lib.hid hnx
    obtain ⟨y1, y2⟩ := hS.hy i (by omega)
    have q0 := hS.u0
    have hor : bits .or .u8 (byteAt cur i : Int) (b : Int) = ((byteAt cur i ||| b : Nat) : Int) := or_u8 _ _ (by have := byteAt_lt cur i; omega) (by omega)
    have hi0 : (0 : Int) ≤ (i : Int) := Int.natCast_nonneg _
    have hi1 : (i : Int) < (d.size : Int) := by omega
    have HS := Lib.hid hS
    have HBw := Lib.hid hB
    have HBV := Lib.hid hbv
    have HCS := Lib.hid hcs
    clear hS hB hnx hcur hx1 hx2 hp hbv hcs u0 u1 u2 u3 c0 c1 c2 cf d0 d1 d2 df0 df1 df2 hy kc0 hxx
    gi_wp2
    have hS := HS.out
    refine ⟨KeepsOthers.setCell _ _ _, by show World.cell? _ _ = _; go_simp, ⟨?_, ?_⟩⟩
    · rw [HNX.out]
      exact ⟨by have := hS.c0; go_simp, by have := hS.c1; go_simp, by have := hS.c2; go_simp, by have := hS.cf; go_simp, by have := hS.d0; go_simp, by have := hS.d1; go_simp, by have := hS.d2; go_simp,
        by have := hS.df0; go_simp, by have := hS.df1; go_simp, by have := hS.df2; go_simp, by have := hS.u0; go_simp, hS.hy.orM i b (by rw [HCS.out]; omega) HBV.out⟩
    · exact HBw.out.setCell (p := ⟨w.heap.size + 1 + 1, i, none⟩) (by dsimp only; omega) _
  case done =>
    rintro D ys W hD rfl ⟨hS, hB⟩ hK
    obtain ⟨res, hres⟩ : ∃ res, res = orX (marksL key (64 * 2 ^ e) h).attach d := ⟨_, rfl⟩
    have hrf : res = addF key bi h d := by rw [hres, orX_all, HBI.out]
    have hrs : res.size = d.size := by rw [hres, orX_size]
    rw [← hres] at hS
    have hcv := conv_back W (w.heap.size + 1 + 1) cap res hS.hy
    rw [hrs] at hcv
    have HB := Lib.hid hB
    have HD := Lib.hid hD
    have HRF := Lib.hid hrf
    obtain ⟨c0, c1, c2, cf, d0, d1, d2, df0, df1, df2, u0, hy⟩ := hS
    clear hB hD hrf hres hrs hy kc0
    rename_i g1 g2 g3 g4 g5 g6 g7 g8 g9 g10 g11 g12 g13 g14
    gi_wp2
    go_wp2
    obtain ⟨w9, hw9⟩ : ∃ w9, ((((W.setCell ⟨w.heap.size, 2, none⟩ (.string res)).setCell ⟨w.heap.size + 1, 0, none⟩ (.int .i64 bi)).setCell ⟨w.heap.size + 1, 1, none⟩ (.int .i64 h)).setCell ⟨w.heap.size + 1, 2, none⟩ (.string res)) = w9 := ⟨_, rfl⟩
    have hD' := HD.out
    have q0 : w9.cell? ⟨w.heap.size + 1, 0, none⟩ = some (.int .i64 bi) := by rw [← hw9]; clear hw9; go_simp
    have q1 : w9.cell? ⟨w.heap.size + 1, 1, none⟩ = some (.int .i64 h) := by rw [← hw9]; clear hw9; go_simp
    have q2 : w9.cell? ⟨w.heap.size + 1, 2, none⟩ = some (.string res) := by rw [← hw9]; clear hw9; go_simp
    have hBf : Below w.heap.size w w9 := by
      rw [← hw9]
      exact (((HB.out.setCell (p := ⟨w.heap.size, 2, none⟩) (Nat.le_refl _) _).setCell (p := ⟨w.heap.size + 1, 0, none⟩) (Nat.le_succ _) _).setCell (p := ⟨w.heap.size + 1, 1, none⟩) (Nat.le_succ _) _).setCell (p := ⟨w.heap.size + 1, 2, none⟩) (Nat.le_succ _) _
    have hK9 : w9.heap[D]? = some (.deferred (some [])) := by
      rw [← hw9]
      refine (Below.heap_setCell _ _ _ _ ?_).trans ((Below.heap_setCell _ _ _ _ ?_).trans ((Below.heap_setCell _ _ _ _ ?_).trans ((Below.heap_setCell _ _ _ _ ?_).trans hK))) <;> (dsimp only; omega)
    rw [hw9]
    clear hw9 c0 c1 c2 cf d0 d1 d2 df0 df1 df2 u0 hcv
    refine ⟨by simp, .inl ⟨_, _, rfl, run_takeDeferred hK9, .agg #[.int .i64 bi, .int .i64 h, .string res], ?_, by rw [HRF.out], hBf.trans (belowK_b (w := w) (Nat.le_refl _) w9 D _ _ (by omega) hK9 rfl rfl)⟩⟩
    have hb : Below W2.heap.size w9 _ := belowK_b (w := W2) (Nat.le_refl _) w9 D _ (.deferred none) hD' hK9 rfl rfl
    have z0 := (hb.cell (p := ⟨w.heap.size + 1, 0, none⟩) (by dsimp only; omega)).trans q0
    have z1 := (hb.cell (p := ⟨w.heap.size + 1, 1, none⟩) (by dsimp only; omega)).trans q1
    have z2 := (hb.cell (p := ⟨w.heap.size + 1, 2, none⟩) (by dsimp only; omega)).trans q2
    clear q0 q1 q2
    simp only [results, Try.f14]
    go_simp
  case stop =>
    rintro D c pre W hD hpre hc hK
    exact hc.elim

theorem badd_any (e h : Nat) (d key : ByteArray) (w : World) (he : e ≤ 10) (hh : h ≤ 8) (hd : d.size = 8 * 2 ^ e) :
    Calls Try.prog 14 #[.agg #[.int .i64 ((64 * 2 ^ e : Nat) : Int), .int .i64 h, .string d], .string key] w fun e' w' => e' = .returned (.agg #[.int .i64 ((64 * 2 ^ e : Nat) : Int), .int .i64 h, .string (addF key (64 * 2 ^ e) h d)]) ∧ Below w.heap.size w w' :=
  callsIn_wide.1 (badd_in e h d key w he hh hd)
end Go.Proofs.Ytingloamfpibaaa
