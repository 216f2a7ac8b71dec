/-
  R.Add: a sieve with a key more.
-/
import Derived.Test.YtingloamfpibaaaBAdd
import Derived.StillTailTactics
namespace Go.Proofs.Ytingloamfpibaaa
open Go.RowKit Go.Proofs.Mem
set_option linter.unusedVariables false

theorem addB_size (key : ByteArray) (B H : Nat) (d : ByteArray) : (addB key B H d).size = d.size := by
  unfold addB
  generalize places key B H = l
  induction l generalizing d with
  | nil => rfl
  | cons p l ih => rw [List.foldl_cons, ih, orBit_size]
/-- Of k places. -/
def addK (key : ByteArray) (B k : Nat) (d : ByteArray) : ByteArray := ((List.range k).map (placeN key B)).foldl orBit d
theorem addK_succ (key : ByteArray) (B k : Nat) (d : ByteArray) : addK key B (k + 1) d = orBit (addK key B k d) (placeN key B k) := by
  unfold addK; rw [List.range_succ, List.map_append, List.foldl_append]; rfl
theorem addK_size (key : ByteArray) (B k : Nat) (d : ByteArray) : (addK key B k d).size = d.size := addB_size key B k d

/-- A text as bytes: where they lie. -/
theorem conv_law : ∃ (bw : World → ByteArray → World) (cp : World → ByteArray → Nat), (∀ w s, Below w.heap.size w (bw w s) ∧ Bytes (bw w s) w.heap.size s ∧ (bw w s).heap.size = w.heap.size + 1) ∧
    ∀ (w : World) (s : ByteArray), Sem.run Try.prog (convert 9 47 (.string s)) w = .ok (.slice (some ⟨w.heap.size, 0, none⟩) s.size (cp w s)) (bw w s) :=
  ⟨fun w s => Lib.bytesWorld w 5 s, fun w s => grownCap w s.size 0 5, fun w s => ⟨bytesWorld_below w _ s, Bytes.new w _ s, Lib.bytesWorld_size w _ s⟩,
    fun w s => Lib.run_convert_string_bytes (P := Try.prog) w 9 47 5 s Try.underlying9 Try.underlying47 Try.underlying5⟩
/-- Bytes as a text. -/
theorem conv_back (w : World) (g cap : Nat) (d : ByteArray) (h : Bytes w g d) : Sem.run Try.prog (convert 47 9 (.slice (some ⟨g, 0, none⟩) d.size cap)) w = .ok (.string d) w := by
  have hl : d.data.toList.length = d.size := by simp
  have h1 := run_convert_bytes_back (P := Try.prog) w 47 9 5 ⟨g, 0, none⟩ cap d.data.toList Try.underlying47 Try.underlying5 Try.underlying9 (by
    intro j hj
    have hj' : j < d.size := by omega
    have := (h j hj').1
    rw [byteAt_eq d j hj'] at this
    have ha : Addr.add ⟨g, 0, none⟩ j = ⟨g, j, none⟩ := by cases j <;> simp [Addr.add]
    rw [ha]
    exact this)
  rw [hl] at h1
  simpa using h1

theorem or_wrap (a p : Nat) (h : a < 256) : bits .or .u8 (a : Int) (IntKind.u8.wrap ((2 : Int) ^ (p % 8))) = ((a ||| 2 ^ (p % 8) : Nat) : Int) := by
  have h2 := pow_byte p
  have e : (2 : Int) ^ (p % 8) = ((2 ^ (p % 8) : Nat) : Int) := by rw [Int.natCast_pow]; rfl
  rw [e, wraps_u8 _ (Int.natCast_nonneg _) (by exact_mod_cast h2), or_u8 _ _ (by omega) (by omega)]
theorem bytes_or {w : World} {g : Nat} {d : ByteArray} {p pq pr : Nat} (h : Bytes w g d) (hq : p / 8 = pq) (hr : p % 8 = pr) (hp : pq < d.size) : Bytes (w.setCell ⟨g, pq, none⟩ (.int .u8 ((byteAt d pq ||| 2 ^ pr : Nat) : Int))) g (orBit d p) := by
  subst hq hr; exact h.orBit p hp

set_option maxHeartbeats 600000 in
theorem radd_any (bi h : Nat) (d key : ByteArray) (w : World) (hk : key.size = 32) (hb0 : 0 < bi) (hb : bi ≤ 65536) (hh : h ≤ 8) (hd : d.size * 8 = bi) :
    Calls Try.prog 15 #[.agg #[.int .i64 bi, .int .i64 h, .string d], .string key] w fun e w' =>
      e = .returned (.agg #[.int .i64 bi, .int .i64 h, .string (addB key bi h d)]) ∧ Below w.heap.size w w' := by
  have hk32 : ((key.size : Int) == 32) = true := beq_iff_eq.2 (by omega)
  obtain ⟨bw, cp, hbw, kc⟩ := conv_law
  obtain ⟨W0, hW0⟩ : ∃ W0, (w.alloc (.cells #[.int .i64 bi, .int .i64 h, .string d] 23)).alloc (.cells #[.int .i64 0, .int .i64 0, .string ⟨#[]⟩] 23) = W0 := ⟨_, rfl⟩
  have hsz : W0.heap.size = w.heap.size + 1 + 1 := by rw [← hW0]; simp only [World.size_alloc]
  have k0 : W0.cell? ⟨w.heap.size, 0, none⟩ = some (.int .i64 bi) := by rw [← hW0]; clear hsz hW0; go_simp
  have k1 : W0.cell? ⟨w.heap.size, 1, none⟩ = some (.int .i64 h) := by rw [← hW0]; clear hsz hW0; go_simp
  have k2 : W0.cell? ⟨w.heap.size, 2, none⟩ = some (.string d) := by rw [← hW0]; clear hsz hW0; go_simp
  have kf : ∀ o, W0.frozen? ⟨w.heap.size, o, none⟩ = false := by rw [← hW0]; clear hsz hW0; intro o; go_simp
  have r0 : W0.cell? ⟨w.heap.size + 1, 0, none⟩ = some (.int .i64 0) := by rw [← hW0]; clear hsz hW0; go_simp
  have r1 : W0.cell? ⟨w.heap.size + 1, 1, none⟩ = some (.int .i64 0) := by rw [← hW0]; clear hsz hW0; go_simp
  have r2 : W0.cell? ⟨w.heap.size + 1, 2, none⟩ = some (.string ⟨#[]⟩) := by rw [← hW0]; clear hsz hW0; go_simp
  have rf : ∀ o, W0.frozen? ⟨w.heap.size + 1, o, none⟩ = false := by rw [← hW0]; clear hsz hW0; intro o; go_simp
  have hB0 : Below w.heap.size w W0 := by rw [← hW0]; clear hsz hW0; go_grown
  obtain ⟨W1, hW1⟩ : ∃ W1, bw W0 d = W1 := ⟨_, rfl⟩
  obtain ⟨hb1, hy1, hs1⟩ := hbw W0 d
  rw [hW1] at hb1 hy1 hs1
  rw [hsz] at hy1 hs1
  have hBx := Lib.hid (hB0.trans (hb1.mono (by omega)))
  have a0 := (hb1.cell (p := ⟨w.heap.size, 0, none⟩) (by dsimp only; omega)).trans k0
  have a1 := (hb1.cell (p := ⟨w.heap.size, 1, none⟩) (by dsimp only; omega)).trans k1
  have a2 := (hb1.cell (p := ⟨w.heap.size, 2, none⟩) (by dsimp only; omega)).trans k2
  have af : ∀ o, W1.frozen? ⟨w.heap.size, o, none⟩ = false := fun o => (hb1.frozen (p := ⟨w.heap.size, o, none⟩) (by dsimp only; omega)).trans (kf o)
  have b0 := (hb1.cell (p := ⟨w.heap.size + 1, 0, none⟩) (by dsimp only; omega)).trans r0
  have b1 := (hb1.cell (p := ⟨w.heap.size + 1, 1, none⟩) (by dsimp only; omega)).trans r1
  have b2 := (hb1.cell (p := ⟨w.heap.size + 1, 2, none⟩) (by dsimp only; omega)).trans r2
  have bf : ∀ o, W1.frozen? ⟨w.heap.size + 1, o, none⟩ = false := fun o => (hb1.frozen (p := ⟨w.heap.size + 1, o, none⟩) (by dsimp only; omega)).trans (rf o)
  have Hy1 := Lib.hid hy1
  have kc0 := kc W0 d
  rw [hW1, hsz] at kc0
  generalize cp W0 d = cap at *
  clear k0 k1 k2 kf r0 r1 r2 rf hb1 hy1 hB0 kc hbw hsz hW1
  subst hW0
  go_enter Try.func15, Try.ntmps15
  go_wp2_with (go_at_call 30; refine Calls.mono (places_any bi h d key _ hk hb0 hb hh) ?_; rintro e w1 ⟨v, rfl, hown, hB1⟩)
  have hgd : w.heap.size + 1 + 1 < w1.heap.size := by have := hB1.size; omega
  have Hy2 := Lib.hid (Hy1.out.on hB1 (by omega))
  have HBw := Lib.hid (hBx.out.trans (hB1.mono (by omega)))
  have c0 := (hB1.cell (p := ⟨w.heap.size, 0, none⟩) (by dsimp only; omega)).trans a0
  have c1 := (hB1.cell (p := ⟨w.heap.size, 1, none⟩) (by dsimp only; omega)).trans a1
  have c2 := (hB1.cell (p := ⟨w.heap.size, 2, none⟩) (by dsimp only; omega)).trans a2
  have cf : ∀ o, w1.frozen? ⟨w.heap.size, o, none⟩ = false := fun o => (hB1.frozen (p := ⟨w.heap.size, o, none⟩) (by dsimp only; omega)).trans (af o)
  have d0 := (hB1.cell (p := ⟨w.heap.size + 1, 0, none⟩) (by dsimp only; omega)).trans b0
  have d1 := (hB1.cell (p := ⟨w.heap.size + 1, 1, none⟩) (by dsimp only; omega)).trans b1
  have d2 := (hB1.cell (p := ⟨w.heap.size + 1, 2, none⟩) (by dsimp only; omega)).trans b2
  have df : ∀ o, w1.frozen? ⟨w.heap.size + 1, o, none⟩ = false := fun o => (hB1.frozen (p := ⟨w.heap.size + 1, o, none⟩) (by dsimp only; omega)).trans (bf o)
  obtain ⟨A, c, rfl, HRow, hA⟩ : ∃ A c, v = .slice A h c ∧ Hid (Row w1 w1.heap.size A ((places key bi h).map fun p => .int .i64 (p : Nat))) ∧ (∀ q, A = some q → w.heap.size + 1 + 1 < q.block) := by
    rcases hown.2 with ⟨rfl, h0⟩ | ⟨g, cc, cur, rfl, hg, _⟩
    · subst h0; exact ⟨none, 0, rfl, Lib.hid (row_of_own hown), by intro q hq; cases hq⟩
    · exact ⟨some ⟨g, 0, none⟩, cc, rfl, Lib.hid (row_of_own hown), by intro q hq; cases hq; dsimp only; omega⟩
  clear a0 a1 a2 af b0 b1 b2 bf Hy1 hBx hown hB1 hs1 kc0
  go_loopw [7] (fun i wr => ∃ k : Nat, i = .int .i64 k ∧ k ≤ h ∧ Hid (Bytes wr (w.heap.size + 1 + 1) (addK key bi k d)) ∧ Hid (Below (w.heap.size + 1 + 1) w1 wr) ∧ Hid (∀ g, g ≠ w.heap.size + 1 + 1 → wr.heap[g]? = w1.heap[g]?) ∧ Hid (w1.heap.size ≤ wr.heap.size)) (fun i _ => h - (intOf i).toNat)
  case atStart => exact ⟨0, rfl, Nat.zero_le _, Hy2, Lib.hid (Below.refl _ _), Lib.hid (fun _ _ => rfl), Lib.hid (Nat.le_refl _)⟩
  case round =>
    obtain ⟨k, rfl, hk', Hy, HB, HG, HS⟩ := hrel
    by_cases hkh : k = h
    · subst hkh
      have hkk : decide ((k : Int) < (k : Int)) = false := decide_eq_false (by omega)
      have hkb := conv_back wr (w.heap.size + 1 + 1) cap (addK key bi k d) Hy.out
      rw [addK_size] at hkb
      have e0 := (World.cell?_of_block (a := ⟨w.heap.size, 0, none⟩) (HG.out w.heap.size (by omega))).trans c0
      have e1 := (World.cell?_of_block (a := ⟨w.heap.size, 1, none⟩) (HG.out w.heap.size (by omega))).trans c1
      have e2 := (World.cell?_of_block (a := ⟨w.heap.size, 2, none⟩) (HG.out w.heap.size (by omega))).trans c2
      have ef : ∀ o, wr.frozen? ⟨w.heap.size, o, none⟩ = false := fun o => (World.frozen?_of_block (a := ⟨w.heap.size, o, none⟩) (HG.out w.heap.size (by omega))).trans (cf o)
      have g0 := (World.cell?_of_block (a := ⟨w.heap.size + 1, 0, none⟩) (HG.out (w.heap.size + 1) (by omega))).trans d0
      have g1 := (World.cell?_of_block (a := ⟨w.heap.size + 1, 1, none⟩) (HG.out (w.heap.size + 1) (by omega))).trans d1
      have g2 := (World.cell?_of_block (a := ⟨w.heap.size + 1, 2, none⟩) (HG.out (w.heap.size + 1) (by omega))).trans d2
      have gf : ∀ o, wr.frozen? ⟨w.heap.size + 1, o, none⟩ = false := fun o => (World.frozen?_of_block (a := ⟨w.heap.size + 1, o, none⟩) (HG.out (w.heap.size + 1) (by omega))).trans (df o)
      obtain ⟨res, hres⟩ : ∃ res, res = addK key bi k d := ⟨_, rfl⟩
      rw [← hres] at hkb
      have HRes := Lib.hid hres
      clear c0 c1 c2 cf d0 d1 d2 df hres Hy
      go_wp2
      obtain ⟨w9, hw9⟩ : ∃ w9, ((((wr.setCell ⟨w.heap.size, 2, none⟩ (.string res)).setCell ⟨w.heap.size + 1, 0, none⟩ (.int .i64 bi)).setCell ⟨w.heap.size + 1, 1, none⟩ (.int .i64 k)).setCell ⟨w.heap.size + 1, 2, none⟩ (.string res)) = w9 := ⟨_, rfl⟩
      have u0 : w9.cell? ⟨w.heap.size + 1, 0, none⟩ = some (.int .i64 bi) := by rw [← hw9]; clear hw9; go_simp
      have u1 : w9.cell? ⟨w.heap.size + 1, 1, none⟩ = some (.int .i64 k) := by rw [← hw9]; clear hw9; go_simp
      have u2 : w9.cell? ⟨w.heap.size + 1, 2, none⟩ = some (.string res) := by rw [← hw9]; clear hw9; go_simp
      have hBf : Below w.heap.size w w9 := by
        rw [← hw9]
        have hbb := HBw.out.trans (HB.out.mono (by omega))
        exact (((hbb.setCell (p := ⟨w.heap.size, 2, none⟩) (Nat.le_refl _) _).setCell (p := ⟨w.heap.size + 1, 0, none⟩) (Nat.le_succ _) _).setCell (p := ⟨w.heap.size + 1, 1, none⟩) (Nat.le_succ _) _).setCell (p := ⟨w.heap.size + 1, 2, none⟩) (Nat.le_succ _) _
      rw [hw9]
      clear hw9 e0 e1 e2 ef g0 g1 g2 gf hkb
      refine bodyPost_ret (v := .agg #[.int .i64 bi, .int .i64 k, .string res]) ?_ rfl ?_
      · simp only [results, Try.f15]
        go_simp
      · exact ⟨by rw [HRes.out]; rfl, hBf⟩
    · have hlt : k < h := by omega
      have hlti : (k : Int) < (h : Int) := by omega
      have hk0 : (0 : Int) ≤ (k : Int) := Int.natCast_nonneg _
      obtain ⟨p, hp⟩ : ∃ p, p = placeN key bi k := ⟨_, rfl⟩
      have hpl : p < bi := by rw [hp]; exact Nat.mod_lt _ hb0
      have hps : p / 8 < d.size := by omega
      obtain ⟨cur, hcur⟩ : ∃ cur, cur = addK key bi k d := ⟨_, rfl⟩
      have hcs : cur.size = d.size := by rw [hcur, addK_size]
      have hnx : addK key bi (k + 1) d = orBit cur p := by rw [addK_succ, ← hcur, ← hp]
      obtain ⟨gp, op, rfl, hgp, hcl⟩ := HRow.out.at_ (by simp [places]; omega)
      have hq1 := hcl k (.int .i64 (p : Nat)) (by simp [places, hlt, hp])
      have hgne : gp ≠ w.heap.size + 1 + 1 := by have := hA _ rfl; dsimp only at this; omega
      have q1 : wr.cell? ⟨gp, op + k, none⟩ = some (.int .i64 (p : Nat)) := (World.cell?_of_block (a := ⟨gp, op + k, none⟩) (HG.out gp hgne)).trans hq1
      have hy := Hy.out
      rw [← hcur] at hy
      obtain ⟨y1, y2⟩ := hy (p / 8) (by omega)
      have hdiv : (p : Int).tdiv 8 = ((p / 8 : Nat) : Int) := by rw [Int.tdiv_eq_ediv_of_nonneg (by omega)]; omega
      have hmod : (p : Int).tmod 8 = ((p % 8 : Nat) : Int) := by rw [Int.tmod_eq_emod_of_nonneg (by omega)]; omega
      have hi1 : ((p / 8 : Nat) : Int) < (d.size : Int) := by omega
      have hi0 : (0 : Int) ≤ ((p / 8 : Nat) : Int) := by omega
      have hwq : IntKind.i64.wrap ((p / 8 : Nat) : Int) = ((p / 8 : Nat) : Int) := IntWalk.i64_in _ (by omega)
      have hwr : IntKind.i64.wrap ((p % 8 : Nat) : Int) = ((p % 8 : Nat) : Int) := IntWalk.i64_in _ (by omega)
      have hwu : IntKind.u64.wrap ((p % 8 : Nat) : Int) = ((p % 8 : Nat) : Int) := wraps_u64 _ (by omega) (by omega)
      have hpr : p % 8 < 8 := by omega
      have hpr0 : (0 : Int) ≤ ((p % 8 : Nat) : Int) := by omega
      have HCur := Lib.hid hcur
      have HNx := Lib.hid hnx
      have HP := Lib.hid hp
      have Hyc := Lib.hid hy
      clear hcur hnx hp hy hcl hq1 hpl hps Hy
      have hor := or_wrap (byteAt cur (p / 8)) p (byteAt_lt _ _)
      generalize hpq : p / 8 = pq at *
      generalize hpr' : p % 8 = pr at *
      have HPQ := Lib.hid hpq
      have HPR := Lib.hid hpr'
      clear hpq hpr'
      go_wp2
      refine wp_region_still_tail 23 (by kernel_rfl) (by kernel_rfl) ?_
      change wpStill _ _ wr.drew (fun a' => wpList _ _ _ _ a' wr.drew) _ _
      generalize hT : (fun a' => wpList _ _ _ _ a' wr.drew) = T
      have HT := Lib.hid hT
      clear hT
      have q1' : wr.drew.cell? ⟨gp, op + k, none⟩ = some (.int .i64 (p : Nat)) := q1
      have y1' : wr.drew.cell? ⟨w.heap.size + 1 + 1, pq, none⟩ = some (.int .u8 (byteAt cur pq : Nat)) := y1
      have y2' : wr.drew.frozen? ⟨w.heap.size + 1 + 1, pq, none⟩ = false := y2
      have Hyd : Hid (Bytes wr.drew (w.heap.size + 1 + 1) cur) := Hyc
      have HBd : Hid (Below (w.heap.size + 1 + 1) w1 wr.drew) := Lib.hid HB.out.drew
      have HGd : Hid (∀ g, g ≠ w.heap.size + 1 + 1 → wr.drew.heap[g]? = w1.heap[g]?) := HG
      have HSd : Hid (w1.heap.size ≤ wr.drew.heap.size) := HS
      clear q1 y1 y2 Hyc HB HG HS
      generalize wr.drew = wd at *
      simp only [List.take_succ_cons, List.take_zero]
      iterate 23 still_step
      refine wpStill_nil ?_
      rw [← HT.out]
      clear HT
      simp only [List.drop_succ_cons, List.drop_zero]
      go_wp2
      go_roundw
      case rel =>
        refine ⟨k + 1, by go_num, by omega, Lib.hid ?_, Lib.hid (HBd.out.setCell (p := ⟨w.heap.size + 1 + 1, pq, none⟩) (Nat.le_refl _) _), Lib.hid (fun g hg => (Below.heap_setCell _ _ _ _ hg).trans (HGd.out g hg)), Lib.hid (by simpa using HSd.out)⟩
        rw [HNx.out]
        exact bytes_or Hyd.out HPQ.out HPR.out (by omega)
      case measure => simp [intOf]; omega

end Go.Proofs.Ytingloamfpibaaa
