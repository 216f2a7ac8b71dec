/-
  JOINED SIEVES: both Joins.
-/
import Derived.Test.YtingloamfpibaaaBBHas
namespace Go.Proofs.Ytingloamfpibaaa
open Go.RowKit Go.Proofs.Mem
set_option linter.unusedVariables false

/-- The first k bytes joined. -/
def joinK (b : ByteArray) (k : Nat) (d : ByteArray) : ByteArray := (List.range k).foldl (fun d i => orM d (i, byteAt b i)) d
theorem joinK_succ (b : ByteArray) (k : Nat) (d : ByteArray) : joinK b (k + 1) d = orM (joinK b k d) (k, byteAt b k) := by
  unfold joinK; rw [List.range_succ, List.foldl_append]; rfl
theorem joinK_size (b : ByteArray) (k : Nat) (d : ByteArray) : (joinK b k d).size = d.size := by
  induction k with
  | zero => rfl
  | succ k ih => rw [joinK_succ, orM_size, ih]
def joinB (a b : ByteArray) : ByteArray := joinK b a.size a

/-- What lies there between two rounds. -/
structure JoinS (X : Nat) (ba ha : Int) (a b cur : ByteArray) (W : World) : Prop where
  c0 : W.cell? ⟨X, 0, none⟩ = some (.int .i64 ba)
  c1 : W.cell? ⟨X, 1, none⟩ = some (.int .i64 ha)
  c2 : W.cell? ⟨X, 2, none⟩ = some (.string a)
  cf : W.frozen? ⟨X, 2, none⟩ = false
  cb : W.cell? ⟨X + 1, 2, none⟩ = some (.string b)
  d0 : W.cell? ⟨X + 1 + 1, 0, none⟩ = some (.int .i64 0)
  d1 : W.cell? ⟨X + 1 + 1, 1, none⟩ = some (.int .i64 0)
  d2 : W.cell? ⟨X + 1 + 1, 2, none⟩ = some (.string ⟨#[]⟩)
  df0 : W.frozen? ⟨X + 1 + 1, 0, none⟩ = false
  df1 : W.frozen? ⟨X + 1 + 1, 1, none⟩ = false
  df2 : W.frozen? ⟨X + 1 + 1, 2, none⟩ = false
  hy : Bytes W (X + 1 + 1 + 1) cur

set_option maxHeartbeats 1000000 in
theorem bjoin_any (ba ha bb hb : Int) (a b : ByteArray) (w : World) (hs : ba = bb → a.size = b.size) (hz : a.size ≤ 1000000) :
    Calls Try.prog 12 #[.agg #[.int .i64 ba, .int .i64 ha, .string a], .agg #[.int .i64 bb, .int .i64 hb, .string b]] w fun e w' =>
      (e = if ba = bb ∧ ha = hb then .returned (.tuple #[.agg #[.int .i64 ba, .int .i64 ha, .string (joinB a b)], .int .i64 0]) else .returned (.tuple #[.agg #[.int .i64 ba, .int .i64 ha, .string a], .int .i64 10])) ∧ Below w.heap.size w w' := by
  by_cases h1 : ba = bb
  case neg =>
    have g1 : (ba == bb) = false := beq_eq_false_iff_ne.2 h1
    have h2 : ¬(ba = bb ∧ ha = hb) := fun h => h1 h.1
    rw [if_neg h2]
    go_enter Try.func12, Try.ntmps12
    go_wp2
    refine bodyPost_ret (v := .tuple #[.agg #[.int .i64 ba, .int .i64 ha, .string a], .int .i64 10]) ?_ rfl ?_
    · simp only [results, Try.f12]
      go_simp
    · exact ⟨rfl, by go_grown⟩
  subst h1
  by_cases h1 : ha = hb
  case neg =>
    have g1 : (ha == hb) = false := beq_eq_false_iff_ne.2 h1
    have h2 : ¬(ba = ba ∧ ha = hb) := fun h => h1 h.2
    rw [if_neg h2]
    go_enter Try.func12, Try.ntmps12
    go_wp2
    refine bodyPost_ret (v := .tuple #[.agg #[.int .i64 ba, .int .i64 ha, .string a], .int .i64 10]) ?_ rfl ?_
    · simp only [results, Try.f12]
      go_simp
    · exact ⟨rfl, by go_grown⟩
  subst h1
  have hab := hs rfl
  clear hs
  rw [if_pos ⟨rfl, rfl⟩]
  obtain ⟨bw, cp, hbw, kc⟩ := conv_law
  obtain ⟨W0, hW0⟩ : ∃ W0, ((w.alloc (.cells #[.int .i64 ba, .int .i64 ha, .string a] 23)).alloc (.cells #[.int .i64 ba, .int .i64 ha, .string b] 23)).alloc (.cells #[.int .i64 0, .int .i64 0, .string ⟨#[]⟩] 23) = W0 := ⟨_, rfl⟩
  have hsz : W0.heap.size = w.heap.size + 1 + 1 + 1 := by rw [← hW0]; simp only [World.size_alloc]
  have k0 : W0.cell? ⟨w.heap.size, 0, none⟩ = some (.int .i64 ba) := by rw [← hW0]; clear hsz hW0; go_simp
  have k1 : W0.cell? ⟨w.heap.size, 1, none⟩ = some (.int .i64 ha) := by rw [← hW0]; clear hsz hW0; go_simp
  have k2 : W0.cell? ⟨w.heap.size, 2, none⟩ = some (.string a) := by rw [← hW0]; clear hsz hW0; go_simp
  have kf : W0.frozen? ⟨w.heap.size, 2, none⟩ = false := by rw [← hW0]; clear hsz hW0; go_simp
  have kb : W0.cell? ⟨w.heap.size + 1, 2, none⟩ = some (.string b) := by rw [← hW0]; clear hsz hW0; go_simp
  have r0 : W0.cell? ⟨w.heap.size + 1 + 1, 0, none⟩ = some (.int .i64 0) := by rw [← hW0]; clear hsz hW0; go_simp
  have r1 : W0.cell? ⟨w.heap.size + 1 + 1, 1, none⟩ = some (.int .i64 0) := by rw [← hW0]; clear hsz hW0; go_simp
  have r2 : W0.cell? ⟨w.heap.size + 1 + 1, 2, none⟩ = some (.string ⟨#[]⟩) := by rw [← hW0]; clear hsz hW0; go_simp
  have rf0 : W0.frozen? ⟨w.heap.size + 1 + 1, 0, none⟩ = false := by rw [← hW0]; clear hsz hW0; go_simp
  have rf1 : W0.frozen? ⟨w.heap.size + 1 + 1, 1, none⟩ = false := by rw [← hW0]; clear hsz hW0; go_simp
  have rf2 : W0.frozen? ⟨w.heap.size + 1 + 1, 2, none⟩ = false := by rw [← hW0]; clear hsz hW0; go_simp
  have hB0 : Below w.heap.size w W0 := by rw [← hW0]; clear hsz hW0; go_grown
  obtain ⟨W1, hW1⟩ : ∃ W1, bw W0 a = W1 := ⟨_, rfl⟩
  obtain ⟨hb1, hy1, hs1⟩ := hbw W0 a
  rw [hW1] at hb1 hy1 hs1
  rw [hsz] at hy1 hs1
  have hBx := Lib.hid (hB0.trans (hb1.mono (by omega)))
  have HS : Hid (JoinS w.heap.size ba ha a b a W1) := Lib.hid ⟨(hb1.cell (by dsimp only; omega)).trans k0, (hb1.cell (by dsimp only; omega)).trans k1, (hb1.cell (by dsimp only; omega)).trans k2, (hb1.frozen (by dsimp only; omega)).trans kf,
    (hb1.cell (by dsimp only; omega)).trans kb, (hb1.cell (by dsimp only; omega)).trans r0, (hb1.cell (by dsimp only; omega)).trans r1, (hb1.cell (by dsimp only; omega)).trans r2, (hb1.frozen (by dsimp only; omega)).trans rf0, (hb1.frozen (by dsimp only; omega)).trans rf1, (hb1.frozen (by dsimp only; omega)).trans rf2, hy1⟩
  have kc0 := kc W0 a
  rw [hW1, hsz] at kc0
  generalize cp W0 a = cap at *
  clear k0 k1 k2 kf kb r0 r1 r2 rf0 rf1 rf2 hb1 hy1 hB0 kc hbw hsz hW1 hs1
  subst hW0
  have HAB := Lib.hid hab
  clear hab
  go_enter Try.func12, Try.ntmps12
  go_wp2
  go_loopw [26] (fun i wr => ∃ k : Nat, i = .int .i64 k ∧ k ≤ a.size ∧ Hid (JoinS w.heap.size ba ha a b (joinK b k a) wr) ∧ Hid (Below w.heap.size w wr)) (fun i _ => a.size - (intOf i).toNat)
  case atStart => exact ⟨0, rfl, Nat.zero_le _, HS, hBx⟩
  case round =>
    obtain ⟨k, rfl, hk', Hy, HB⟩ := hrel
    clear HS hBx kc0
    have hk0 : (0 : Int) ≤ (k : Int) := Int.natCast_nonneg _
    by_cases hkh : k = a.size
    · have hkk : decide ((k : Int) < (a.size : Int)) = false := decide_eq_false (by omega)
      have hkn : decide (k < a.size) = false := decide_eq_false (by omega)
      obtain ⟨res, hres⟩ : ∃ res, res = joinK b k a := ⟨_, rfl⟩
      have hrf : res = joinB a b := by rw [hres, hkh]; rfl
      have hrs : res.size = a.size := by rw [hres, joinK_size]
      have hS := Hy.out
      rw [← hres] at hS
      have hcv := conv_back wr (w.heap.size + 1 + 1 + 1) cap res hS.hy
      rw [hrs] at hcv
      have HRF := Lib.hid hrf
      obtain ⟨c0, c1, c2, cf, cb, d0, d1, d2, df0, df1, df2, hy⟩ := hS
      clear hrf hres hrs hy Hy hkh
      go_wp2
      obtain ⟨w9, hw9⟩ : ∃ w9, ((((wr.setCell ⟨w.heap.size, 2, none⟩ (.string res)).setCell ⟨w.heap.size + 1 + 1, 0, none⟩ (.int .i64 ba)).setCell ⟨w.heap.size + 1 + 1, 1, none⟩ (.int .i64 ha)).setCell ⟨w.heap.size + 1 + 1, 2, none⟩ (.string res)) = w9 := ⟨_, rfl⟩
      have q0 : w9.cell? ⟨w.heap.size + 1 + 1, 0, none⟩ = some (.int .i64 ba) := by rw [← hw9]; clear hw9; go_simp
      have q1 : w9.cell? ⟨w.heap.size + 1 + 1, 1, none⟩ = some (.int .i64 ha) := by rw [← hw9]; clear hw9; go_simp
      have q2 : w9.cell? ⟨w.heap.size + 1 + 1, 2, none⟩ = some (.string res) := by rw [← hw9]; clear hw9; go_simp
      have hBf : Below w.heap.size w w9 := by
        rw [← hw9]
        exact (((HB.out.setCell (p := ⟨w.heap.size, 2, none⟩) (Nat.le_refl _) _).setCell (p := ⟨w.heap.size + 1 + 1, 0, none⟩) (by dsimp only; omega) _).setCell (p := ⟨w.heap.size + 1 + 1, 1, none⟩) (by dsimp only; omega) _).setCell (p := ⟨w.heap.size + 1 + 1, 2, none⟩) (by dsimp only; omega) _
      rw [hw9]
      clear hw9 c0 c1 c2 cf cb d0 d1 d2 df0 df1 df2 hcv
      refine bodyPost_ret (v := .tuple #[.agg #[.int .i64 ba, .int .i64 ha, .string res], .int .i64 0]) ?_ rfl ?_
      · simp only [results, Try.f12]
        go_simp
      · exact ⟨by rw [HRF.out], hBf⟩
    · have hlt : k < a.size := by omega
      have hkk : decide ((k : Int) < (a.size : Int)) = true := decide_eq_true (by omega)
      have hkn : decide (k < a.size) = true := decide_eq_true (by omega)
      obtain ⟨cur, hcur⟩ : ∃ cur, cur = joinK b k a := ⟨_, rfl⟩
      have hcs : cur.size = a.size := by rw [hcur, joinK_size]
      have hnx : joinK b (k + 1) a = orM cur (k, byteAt b k) := by rw [joinK_succ, ← hcur]
      have hS := Hy.out
      rw [← hcur] at hS
      have HS := Lib.hid hS
      have hkb : k < b.size := by have := HAB.out; omega
      have hbb : (b[k].toNat : Int) = (byteAt b k : Int) := by rw [byteAt_eq b k hkb]
      have hor : bits .or .u8 (byteAt cur k : Int) (b[k].toNat : Int) = ((byteAt cur k ||| byteAt b k : Nat) : Int) := by rw [hbb]; exact or_u8 _ _ (by have := byteAt_lt cur k; omega) (by have := byteAt_lt b k; omega)
      obtain ⟨y1, y2⟩ := hS.hy k (by omega)
      have cb := hS.cb
      have hi1 : (k : Int) < (a.size : Int) := by omega
      have hi2 : (k : Int) < (b.size : Int) := by omega
      have HNX := Lib.hid hnx
      have HCS := Lib.hid hcs
      clear hcur hS hnx hcs Hy hbb
      go_wp2
      refine wp_region_still_tail 10 (by kernel_rfl) (by kernel_rfl) ?_
      change wpStill _ _ wr.drew (fun a' => wpList _ _ _ _ a' wr.drew) _ _
      generalize hT : (fun a' => wpList _ _ _ _ a' wr.drew) = T
      have HT := Lib.hid hT
      clear hT
      have y1' : wr.drew.cell? ⟨w.heap.size + 1 + 1 + 1, k, none⟩ = some (.int .u8 (byteAt cur k : Nat)) := y1
      have y2' : wr.drew.frozen? ⟨w.heap.size + 1 + 1 + 1, k, none⟩ = false := y2
      have cb' : wr.drew.cell? ⟨w.heap.size + 1, 2, none⟩ = some (.string b) := cb
      have HSd : Hid (JoinS w.heap.size ba ha a b cur wr.drew) := Lib.hid ⟨HS.out.c0, HS.out.c1, HS.out.c2, HS.out.cf, HS.out.cb, HS.out.d0, HS.out.d1, HS.out.d2, HS.out.df0, HS.out.df1, HS.out.df2, HS.out.hy⟩
      have HBd : Hid (Below w.heap.size w wr.drew) := Lib.hid HB.out.drew
      clear y1 y2 cb HS HB
      generalize wr.drew = wd at *
      simp only [List.take_succ_cons, List.take_zero]
      iterate 10 still_step
      refine wpStill_nil ?_
      rw [← HT.out]
      clear HT
      simp only [List.drop_succ_cons, List.drop_zero]
      go_wp2
      go_roundw
      case rel =>
        refine ⟨k + 1, by go_num, by omega, Lib.hid ?_, Lib.hid (HBd.out.setCell (p := ⟨w.heap.size + 1 + 1 + 1, k, none⟩) (by dsimp only; omega) _)⟩
        rw [HNX.out]
        have hS := HSd.out
        exact ⟨by have := hS.c0; go_simp, by have := hS.c1; go_simp, by have := hS.c2; go_simp, by have := hS.cf; go_simp, by have := hS.cb; go_simp, by have := hS.d0; go_simp, by have := hS.d1; go_simp, by have := hS.d2; go_simp,
          by have := hS.df0; go_simp, by have := hS.df1; go_simp, by have := hS.df2; go_simp, hS.hy.orM k (byteAt b k) (by rw [HCS.out]; exact hlt) (byteAt_lt _ _)⟩
      case measure => simp [intOf]; omega

set_option maxHeartbeats 1000000 in
theorem rjoin_any (ba ha bb hb : Int) (a b : ByteArray) (w : World) (hs : ba = bb → a.size = b.size) (hz : a.size ≤ 1000000) :
    Calls Try.prog 13 #[.agg #[.int .i64 ba, .int .i64 ha, .string a], .agg #[.int .i64 bb, .int .i64 hb, .string b]] w fun e w' =>
      (e = if ba = bb ∧ ha = hb then .returned (.tuple #[.agg #[.int .i64 ba, .int .i64 ha, .string (joinB a b)], .int .i64 0]) else .returned (.tuple #[.agg #[.int .i64 ba, .int .i64 ha, .string a], .int .i64 10])) ∧ Below w.heap.size w w' := by
  by_cases h1 : ba = bb
  case neg =>
    have g1 : (ba == bb) = false := beq_eq_false_iff_ne.2 h1
    have h2 : ¬(ba = bb ∧ ha = hb) := fun h => h1 h.1
    rw [if_neg h2]
    go_enter Try.func13, Try.ntmps13
    go_wp2
    refine bodyPost_ret (v := .tuple #[.agg #[.int .i64 ba, .int .i64 ha, .string a], .int .i64 10]) ?_ rfl ?_
    · simp only [results, Try.f13]
      go_simp
    · exact ⟨rfl, by go_grown⟩
  subst h1
  by_cases h1 : ha = hb
  case neg =>
    have g1 : (ha == hb) = false := beq_eq_false_iff_ne.2 h1
    have h2 : ¬(ba = ba ∧ ha = hb) := fun h => h1 h.2
    rw [if_neg h2]
    go_enter Try.func13, Try.ntmps13
    go_wp2
    refine bodyPost_ret (v := .tuple #[.agg #[.int .i64 ba, .int .i64 ha, .string a], .int .i64 10]) ?_ rfl ?_
    · simp only [results, Try.f13]
      go_simp
    · exact ⟨rfl, by go_grown⟩
  subst h1
  have hab := hs rfl
  clear hs
  rw [if_pos ⟨rfl, rfl⟩]
  obtain ⟨bw, cp, hbw, kc⟩ := conv_law
  obtain ⟨W0, hW0⟩ : ∃ W0, ((w.alloc (.cells #[.int .i64 ba, .int .i64 ha, .string a] 23)).alloc (.cells #[.int .i64 ba, .int .i64 ha, .string b] 23)).alloc (.cells #[.int .i64 0, .int .i64 0, .string ⟨#[]⟩] 23) = W0 := ⟨_, rfl⟩
  have hsz : W0.heap.size = w.heap.size + 1 + 1 + 1 := by rw [← hW0]; simp only [World.size_alloc]
  have k0 : W0.cell? ⟨w.heap.size, 0, none⟩ = some (.int .i64 ba) := by rw [← hW0]; clear hsz hW0; go_simp
  have k1 : W0.cell? ⟨w.heap.size, 1, none⟩ = some (.int .i64 ha) := by rw [← hW0]; clear hsz hW0; go_simp
  have k2 : W0.cell? ⟨w.heap.size, 2, none⟩ = some (.string a) := by rw [← hW0]; clear hsz hW0; go_simp
  have kf : W0.frozen? ⟨w.heap.size, 2, none⟩ = false := by rw [← hW0]; clear hsz hW0; go_simp
  have kb : W0.cell? ⟨w.heap.size + 1, 2, none⟩ = some (.string b) := by rw [← hW0]; clear hsz hW0; go_simp
  have r0 : W0.cell? ⟨w.heap.size + 1 + 1, 0, none⟩ = some (.int .i64 0) := by rw [← hW0]; clear hsz hW0; go_simp
  have r1 : W0.cell? ⟨w.heap.size + 1 + 1, 1, none⟩ = some (.int .i64 0) := by rw [← hW0]; clear hsz hW0; go_simp
  have r2 : W0.cell? ⟨w.heap.size + 1 + 1, 2, none⟩ = some (.string ⟨#[]⟩) := by rw [← hW0]; clear hsz hW0; go_simp
  have rf0 : W0.frozen? ⟨w.heap.size + 1 + 1, 0, none⟩ = false := by rw [← hW0]; clear hsz hW0; go_simp
  have rf1 : W0.frozen? ⟨w.heap.size + 1 + 1, 1, none⟩ = false := by rw [← hW0]; clear hsz hW0; go_simp
  have rf2 : W0.frozen? ⟨w.heap.size + 1 + 1, 2, none⟩ = false := by rw [← hW0]; clear hsz hW0; go_simp
  have hB0 : Below w.heap.size w W0 := by rw [← hW0]; clear hsz hW0; go_grown
  obtain ⟨W1, hW1⟩ : ∃ W1, bw W0 a = W1 := ⟨_, rfl⟩
  obtain ⟨hb1, hy1, hs1⟩ := hbw W0 a
  rw [hW1] at hb1 hy1 hs1
  rw [hsz] at hy1 hs1
  have hBx := Lib.hid (hB0.trans (hb1.mono (by omega)))
  have HS : Hid (JoinS w.heap.size ba ha a b a W1) := Lib.hid ⟨(hb1.cell (by dsimp only; omega)).trans k0, (hb1.cell (by dsimp only; omega)).trans k1, (hb1.cell (by dsimp only; omega)).trans k2, (hb1.frozen (by dsimp only; omega)).trans kf,
    (hb1.cell (by dsimp only; omega)).trans kb, (hb1.cell (by dsimp only; omega)).trans r0, (hb1.cell (by dsimp only; omega)).trans r1, (hb1.cell (by dsimp only; omega)).trans r2, (hb1.frozen (by dsimp only; omega)).trans rf0, (hb1.frozen (by dsimp only; omega)).trans rf1, (hb1.frozen (by dsimp only; omega)).trans rf2, hy1⟩
  have kc0 := kc W0 a
  rw [hW1, hsz] at kc0
  generalize cp W0 a = cap at *
  clear k0 k1 k2 kf kb r0 r1 r2 rf0 rf1 rf2 hb1 hy1 hB0 kc hbw hsz hW1 hs1
  subst hW0
  have HAB := Lib.hid hab
  clear hab
  go_enter Try.func13, Try.ntmps13
  go_wp2
  go_loopw [7] (fun i wr => ∃ k : Nat, i = .int .i64 k ∧ k ≤ a.size ∧ Hid (JoinS w.heap.size ba ha a b (joinK b k a) wr) ∧ Hid (Below w.heap.size w wr)) (fun i _ => a.size - (intOf i).toNat)
  case atStart => exact ⟨0, rfl, Nat.zero_le _, HS, hBx⟩
  case round =>
    obtain ⟨k, rfl, hk', Hy, HB⟩ := hrel
    clear HS hBx kc0
    have hk0 : (0 : Int) ≤ (k : Int) := Int.natCast_nonneg _
    by_cases hkh : k = a.size
    · have hkk : decide ((k : Int) < (a.size : Int)) = false := decide_eq_false (by omega)
      have hkn : decide (k < a.size) = false := decide_eq_false (by omega)
      obtain ⟨res, hres⟩ : ∃ res, res = joinK b k a := ⟨_, rfl⟩
      have hrf : res = joinB a b := by rw [hres, hkh]; rfl
      have hrs : res.size = a.size := by rw [hres, joinK_size]
      have hS := Hy.out
      rw [← hres] at hS
      have hcv := conv_back wr (w.heap.size + 1 + 1 + 1) cap res hS.hy
      rw [hrs] at hcv
      have HRF := Lib.hid hrf
      obtain ⟨c0, c1, c2, cf, cb, d0, d1, d2, df0, df1, df2, hy⟩ := hS
      clear hrf hres hrs hy Hy hkh
      go_wp2
      obtain ⟨w9, hw9⟩ : ∃ w9, ((((wr.setCell ⟨w.heap.size, 2, none⟩ (.string res)).setCell ⟨w.heap.size + 1 + 1, 0, none⟩ (.int .i64 ba)).setCell ⟨w.heap.size + 1 + 1, 1, none⟩ (.int .i64 ha)).setCell ⟨w.heap.size + 1 + 1, 2, none⟩ (.string res)) = w9 := ⟨_, rfl⟩
      have q0 : w9.cell? ⟨w.heap.size + 1 + 1, 0, none⟩ = some (.int .i64 ba) := by rw [← hw9]; clear hw9; go_simp
      have q1 : w9.cell? ⟨w.heap.size + 1 + 1, 1, none⟩ = some (.int .i64 ha) := by rw [← hw9]; clear hw9; go_simp
      have q2 : w9.cell? ⟨w.heap.size + 1 + 1, 2, none⟩ = some (.string res) := by rw [← hw9]; clear hw9; go_simp
      have hBf : Below w.heap.size w w9 := by
        rw [← hw9]
        exact (((HB.out.setCell (p := ⟨w.heap.size, 2, none⟩) (Nat.le_refl _) _).setCell (p := ⟨w.heap.size + 1 + 1, 0, none⟩) (by dsimp only; omega) _).setCell (p := ⟨w.heap.size + 1 + 1, 1, none⟩) (by dsimp only; omega) _).setCell (p := ⟨w.heap.size + 1 + 1, 2, none⟩) (by dsimp only; omega) _
      rw [hw9]
      clear hw9 c0 c1 c2 cf cb d0 d1 d2 df0 df1 df2 hcv
      refine bodyPost_ret (v := .tuple #[.agg #[.int .i64 ba, .int .i64 ha, .string res], .int .i64 0]) ?_ rfl ?_
      · simp only [results, Try.f13]
        go_simp
      · exact ⟨by rw [HRF.out], hBf⟩
    · have hlt : k < a.size := by omega
      have hkk : decide ((k : Int) < (a.size : Int)) = true := decide_eq_true (by omega)
      have hkn : decide (k < a.size) = true := decide_eq_true (by omega)
      obtain ⟨cur, hcur⟩ : ∃ cur, cur = joinK b k a := ⟨_, rfl⟩
      have hcs : cur.size = a.size := by rw [hcur, joinK_size]
      have hnx : joinK b (k + 1) a = orM cur (k, byteAt b k) := by rw [joinK_succ, ← hcur]
      have hS := Hy.out
      rw [← hcur] at hS
      have HS := Lib.hid hS
      have hkb : k < b.size := by have := HAB.out; omega
      have hbb : (b[k].toNat : Int) = (byteAt b k : Int) := by rw [byteAt_eq b k hkb]
      have hor : bits .or .u8 (byteAt cur k : Int) (b[k].toNat : Int) = ((byteAt cur k ||| byteAt b k : Nat) : Int) := by rw [hbb]; exact or_u8 _ _ (by have := byteAt_lt cur k; omega) (by have := byteAt_lt b k; omega)
      obtain ⟨y1, y2⟩ := hS.hy k (by omega)
      have cb := hS.cb
      have hi1 : (k : Int) < (a.size : Int) := by omega
      have hi2 : (k : Int) < (b.size : Int) := by omega
      have HNX := Lib.hid hnx
      have HCS := Lib.hid hcs
      clear hcur hS hnx hcs Hy hbb
      go_wp2
      refine wp_region_still_tail 12 (by kernel_rfl) (by kernel_rfl) ?_
      change wpStill _ _ wr.drew (fun a' => wpList _ _ _ _ a' wr.drew) _ _
      generalize hT : (fun a' => wpList _ _ _ _ a' wr.drew) = T
      have HT := Lib.hid hT
      clear hT
      have y1' : wr.drew.cell? ⟨w.heap.size + 1 + 1 + 1, k, none⟩ = some (.int .u8 (byteAt cur k : Nat)) := y1
      have y2' : wr.drew.frozen? ⟨w.heap.size + 1 + 1 + 1, k, none⟩ = false := y2
      have cb' : wr.drew.cell? ⟨w.heap.size + 1, 2, none⟩ = some (.string b) := cb
      have HSd : Hid (JoinS w.heap.size ba ha a b cur wr.drew) := Lib.hid ⟨HS.out.c0, HS.out.c1, HS.out.c2, HS.out.cf, HS.out.cb, HS.out.d0, HS.out.d1, HS.out.d2, HS.out.df0, HS.out.df1, HS.out.df2, HS.out.hy⟩
      have HBd : Hid (Below w.heap.size w wr.drew) := Lib.hid HB.out.drew
      clear y1 y2 cb HS HB
      generalize wr.drew = wd at *
      simp only [List.take_succ_cons, List.take_zero]
      iterate 12 still_step
      refine wpStill_nil ?_
      rw [← HT.out]
      clear HT
      simp only [List.drop_succ_cons, List.drop_zero]
      go_wp2
      go_roundw
      case rel =>
        refine ⟨k + 1, by go_num, by omega, Lib.hid ?_, Lib.hid (HBd.out.setCell (p := ⟨w.heap.size + 1 + 1 + 1, k, none⟩) (by dsimp only; omega) _)⟩
        rw [HNX.out]
        have hS := HSd.out
        exact ⟨by have := hS.c0; go_simp, by have := hS.c1; go_simp, by have := hS.c2; go_simp, by have := hS.cf; go_simp, by have := hS.cb; go_simp, by have := hS.d0; go_simp, by have := hS.d1; go_simp, by have := hS.d2; go_simp,
          by have := hS.df0; go_simp, by have := hS.df1; go_simp, by have := hS.df2; go_simp, hS.hy.orM k (byteAt b k) (by rw [HCS.out]; exact hlt) (byteAt_lt _ _)⟩
      case measure => simp [intOf]; omega

end Go.Proofs.Ytingloamfpibaaa
