/-
  THE WALK OF cdc.Cut.
-/
import Derived.Test.YtkcailgfggbigaaDoorHsh
import Derived.Test.YtkcailgfggbigaaDoorTz
import Derived.Test.YtkcailgfggbigaaDoorShelf
namespace Go.Proofs.YtkcailgfggbigaaDoor
open Go.RowKit Go.Shelf Go.Proofs.Gear
attribute [local go_sem] Oper.semAt_some
set_option linter.unusedVariables false

theorem hashes_any (s : ByteArray) (fr en : Int) (w : World) :
    Calls Tryd.prog 28 #[.string s, .int .i64 fr, .int .i64 en] w fun e w' => e = .returned (.func (.func 36) #[] #[.pointer (some ⟨w.heap.size + 1, 0, none⟩), .pointer (some ⟨w.heap.size + 1 + 1, 0, none⟩), .pointer (some ⟨w.heap.size, 0, none⟩)]) ∧
      ((w.alloc (.cells #[.string s] 9)).alloc (.cells #[.int .i64 fr] 3)).alloc (.cells #[.int .i64 en] 3) = w' := by
  go_enter Tryd.func28, Tryd.ntmps28
  go_wp2
  go_ret
  exact ⟨rfl, rfl⟩

/-- Whether a place is passed over. -/
def skips (av b : Nat) (x : Nat × Nat) : Bool := if x.1 < av then decide ((64 : Int) - (Lib.bitLen x.2 : Int) ≤ b) else decide ((64 : Int) - (Lib.bitLen x.2 : Int) < (b : Int) - 1)
/-- How many bytes the first piece has. -/
def cutN (mn av mx b : Nat) (s : ByteArray) : Nat :=
  match (hashL s mn (min s.size mx)).find? (fun x => !skips av b x) with
  | some x => x.1 + 1
  | none => min s.size mx

theorem hashes_stops (Bf Be Bs n₀ fr en : Nat) (s : ByteArray) (w : World) (hen : en ≤ s.size) (hs : s.size ≤ 9223372036854775807)
    (hf1 : Bf < n₀) (hf2 : Be < n₀) (hf3 : Bs < n₀) (hn : n₀ ≤ w.heap.size) (hle : fr ≤ 9223372036854775807)
    (hBf : w.cell? ⟨Bf, 0, none⟩ = some (.int .i64 fr)) (hBe : w.cell? ⟨Be, 0, none⟩ = some (.int .i64 en)) (hBs : w.cell? ⟨Bs, 0, none⟩ = some (.string s)) :
    SeqStopsK Fence.wide 8 Tryd.prog 36 #[.pointer (some ⟨Bf, 0, none⟩), .pointer (some ⟨Be, 0, none⟩), .pointer (some ⟨Bs, 0, none⟩)] (encH (s := s) (fr := fr) (en := en)) (Below n₀) (fun ys => ys = (hashL s fr en).attach) (fun pre => pre <+: (hashL s fr en).attach) (en - fr) w :=
  fun l J Jx W hB _ _ hY h0 => hashes1_in l Bf Be Bs n₀ fr en s hen hs J Jx hf1 hf2 hf3 hle hY W ((hB.cell (p := ⟨Bf, 0, none⟩) (Nat.lt_of_lt_of_le hf1 hn)).trans hBf) ((hB.cell (p := ⟨Be, 0, none⟩) (Nat.lt_of_lt_of_le hf2 hn)).trans hBe) ((hB.cell (p := ⟨Bs, 0, none⟩) (Nat.lt_of_lt_of_le hf3 hn)).trans hBs) h0

theorem hashL_mem {s : ByteArray} {fr en : Nat} {p : Nat × Nat} (h : p ∈ hashL s fr en) : fr ≤ p.1 ∧ p.1 < en ∧ p.2 < M := by
  obtain ⟨k, hk, rfl⟩ := List.mem_map.1 h
  rw [List.mem_range] at hk
  exact ⟨Nat.le_add_right _ _, by dsimp only; omega, hashFrom_lt _ _ M_pos⟩

theorem all_snoc {α : Type} {l : List α} {x : α} {p : α → Prop} (h : ∀ y ∈ l, p y) (hx : p x) : ∀ y ∈ l ++ [x], p y := fun y hy => (List.mem_append.1 hy).elim (h y) (fun e => by rw [List.mem_singleton.1 e]; exact hx)
/-- Where the last one that came stands. -/
def lastAt {s : ByteArray} {fr en : Nat} (pre : List (HashX s fr en)) : Nat := (pre.getLast?.map (fun x => x.1.1 + 1)).getD 0
def stopped {s : ByteArray} {fr en : Nat} (av b : Nat) (pre : List (HashX s fr en)) : Prop := ∃ init x, pre = init ++ [x] ∧ (∀ y ∈ init, skips av b y.1 = true) ∧ skips av b x.1 = false

theorem cutN_stop (mn av mx b : Nat) (s : ByteArray) (pre : List (HashX s mn (min s.size mx))) (hp : pre <+: (hashL s mn (min s.size mx)).attach) (h : stopped av b pre) : cutN mn av mx b s = lastAt pre := by
  obtain ⟨init, x, rfl, hi, hx⟩ := h
  obtain ⟨rest, hr⟩ := hp
  have hl : hashL s mn (min s.size mx) = init.map Subtype.val ++ (x.1 :: rest.map Subtype.val) := by
    have := congrArg (List.map Subtype.val) hr
    rw [List.attach_map_subtype_val, List.map_append, List.map_append, List.map_cons, List.map_nil, List.append_assoc] at this
    exact this.symm
  have hg : ∀ L : List (Nat × Nat), L = init.map Subtype.val ++ (x.1 :: rest.map Subtype.val) → L.find? (fun x => !skips av b x) = some x.1 := by
    rintro L rfl
    rw [List.find?_append, List.find?_eq_none.2 (by intro y hy; obtain ⟨z, hz, rfl⟩ := List.mem_map.1 hy; simp [hi z hz])]
    simp [hx]
  have hf := hg _ hl
  unfold cutN
  rw [hf]
  simp [lastAt]
theorem cutN_done (mn av mx b : Nat) (s : ByteArray) (h : ∀ y ∈ (hashL s mn (min s.size mx)).attach, skips av b y.1 = true) : cutN mn av mx b s = min s.size mx := by
  have hf : (hashL s mn (min s.size mx)).find? (fun x => !skips av b x) = none := List.find?_eq_none.2 (by intro y hy; simp [h ⟨y, hy⟩ (List.mem_attach _ _)])
  unfold cutN
  rw [hf]

set_option maxHeartbeats 2000000 in
theorem cut_in (mn av mx b idx : Nat) (s : ByteArray) (w : World) (hs : s.size ≤ 9223372036854775807) (hav : (av : Int) = 2 ^ b) (hb1 : 1 ≤ b) (hb2 : b ≤ 12) (h1 : 1 ≤ mn) (h2 : mn ≤ av) (h3 : av ≤ mx) (h4 : mx ≤ 4096)
    (hx : ((av : Int) == 0) = false) (he : tzAt av = (idx : Int)) (hidx : idx < 64) (hc : ∀ W : World, Below w.heap.size w W → W.cell? ⟨1, idx, none⟩ = some (.int .u8 b)) :
    CallsIn Fence.wide 10 Tryd.prog 16 #[.agg #[.int .i64 mn, .int .i64 av, .int .i64 mx], .string s] w fun e w' => e = .returned (.int .i64 (cutN mn av mx b s)) ∧ Below w.heap.size w w' := by
  refine callsIn_of_wp_marks Tryd.func16 rfl trivial ?_ rfl
  simp only [Tryd.ntmps16, List.size_toArray, List.length_cons, List.length_nil, Nat.reduceAdd, Nat.reduceSub, Array.replicate_succ, Array.replicate_zero, List.push_toArray, List.append_toArray, List.nil_append, List.cons_append]
  have HAV := Lib.hid hav
  clear hav
  obtain ⟨en, hen⟩ : ∃ en, en = min s.size mx := ⟨_, rfl⟩
  have hif : min (s.size : Int) (mx : Int) = (en : Int) := by omega
  have hen1 : en ≤ s.size := by omega
  have hen2 : en ≤ 4096 := by omega
  have HE := Lib.hid hen
  clear hen
  refine wpIn_wide.2 ?_
  go_wp2_with fail
  apply wp_scope_straight
  go_wp2_with (first | (go_at_call 27; refine Calls.mono (tz_any av idx b _ hx he hidx (by omega) (hc _ (by go_grown))) ?_; rintro e w' ⟨rfl, rfl⟩) | (go_at_call 28; refine Calls.mono (hashes_any _ _ _ _) ?_; rintro e w' ⟨rfl, rfl⟩))
  apply wp_label
  go_wp2_with (go_at_call 28; refine Calls.mono (hashes_any _ _ _ _) ?_; rintro e w' ⟨rfl, rfl⟩)
  obtain ⟨W0, hW0⟩ : ∃ W0, (((((w.alloc (.cells #[.int .i64 mn, .int .i64 av, .int .i64 mx] 23)).alloc (.cells #[.int .i64 en] 3)).alloc (.cells #[.int .i64 b] 3)).alloc (.cells #[.string s] 9)).alloc (.cells #[.int .i64 mn] 3)).alloc (.cells #[.int .i64 en] 3) = W0 := ⟨_, rfl⟩
  have hsz : W0.heap.size = w.heap.size + 6 := by rw [← hW0]; simp only [World.size_alloc]
  have k1 : W0.cell? ⟨w.heap.size, 1, none⟩ = some (.int .i64 av) := by rw [← hW0]; clear hW0; go_simp
  have k2 : W0.cell? ⟨w.heap.size + 1, 0, none⟩ = some (.int .i64 en) := by rw [← hW0]; clear hW0; go_simp
  have k3 : W0.frozen? ⟨w.heap.size + 1, 0, none⟩ = false := by rw [← hW0]; clear hW0; go_simp
  have k4 : W0.cell? ⟨w.heap.size + 1 + 1, 0, none⟩ = some (.int .i64 b) := by rw [← hW0]; clear hW0; go_simp
  have k5 : W0.cell? ⟨w.heap.size + 1 + 1 + 1, 0, none⟩ = some (.string s) := by rw [← hW0]; clear hW0; go_simp
  have k6 : W0.cell? ⟨w.heap.size + 1 + 1 + 1 + 1, 0, none⟩ = some (.int .i64 mn) := by rw [← hW0]; clear hW0; go_simp
  have k7 : W0.cell? ⟨w.heap.size + 1 + 1 + 1 + 1 + 1, 0, none⟩ = some (.int .i64 en) := by rw [← hW0]; clear hW0; go_simp
  have hB0 : Below w.heap.size w W0 := by rw [← hW0]; clear hW0; go_grown
  rw [hW0]
  clear hW0
  rw [HE.out] at *
  refine (wpIn_wide (n := 9)).1 ?_
  refine wpIn_rangeFunc_ownF rfl (by omega) (gf := 36) (lb := #[.pointer (some ⟨w.heap.size + 1 + 1 + 1 + 1, 0, none⟩), .pointer (some ⟨w.heap.size + 1 + 1 + 1 + 1 + 1, 0, none⟩), .pointer (some ⟨w.heap.size + 1 + 1 + 1, 0, none⟩)]) rfl trivial (enters_of Tryd.func36 (by kernel_rfl) rfl)
    (hashes_stops (w.heap.size + 1 + 1 + 1 + 1) (w.heap.size + 1 + 1 + 1 + 1 + 1) (w.heap.size + 1 + 1 + 1) W0.heap.size mn (min s.size mx) s W0 (by omega) hs (by omega) (by omega) (by omega) (Nat.le_refl _) (by omega) k6 k7 k5) belowK_t (belowK_b (Nat.le_refl _)) (Below.refl _ _) (fun _ => rfl)
    (fun pre W => (W.cell? ⟨w.heap.size, 1, none⟩ = some (.int .i64 av) ∧ W.cell? ⟨w.heap.size + 1, 0, none⟩ = some (.int .i64 (min s.size mx : Nat)) ∧ W.frozen? ⟨w.heap.size + 1, 0, none⟩ = false ∧ W.cell? ⟨w.heap.size + 1 + 1, 0, none⟩ = some (.int .i64 b)) ∧ (Below w.heap.size w W ∧ ∀ y ∈ pre, skips av b y.1 = true))
    (fun c pre W => W.cell? ⟨w.heap.size + 1, 0, none⟩ = some (.int .i64 (lastAt pre : Nat)) ∧ (Below w.heap.size w W ∧ (c = .exit 0 ∧ stopped av b pre)))
    (OwnFrom.and (Own.from (fun s A B row hs hg hr => ⟨cell_kept hs.1 hg hr, cell_kept hs.2.1 hg hr, (frozen_kept hs.2.1 hg hr).trans hs.2.2.1, cell_kept hs.2.2.2 hg hr⟩) _) (OwnFrom.and (ownFrom_below (Nat.le_refl _) (by omega)) (ownFrom_pure _ _)))
    (fun c => OwnFrom.and (Own.from (fun s A B row hs hg hr => by exact cell_kept hs hg hr) _) (OwnFrom.and (ownFrom_below (Nat.le_refl _) (by omega)) (ownFrom_pure _ _)))
    ⟨⟨k1, k2, k3, k4⟩, hB0, by simp⟩
    (fun x => { tmps := #[.agg #[.int .i64 mn, .int .i64 av, .int .i64 mx], .string s, .pointer (some ⟨w.heap.size, 0, none⟩), undef, .int .i64 0, .pointer (some ⟨w.heap.size + 1, 0, none⟩), .pointer (some ⟨w.heap.size + 1 + 1, 0, none⟩), .int .i64 (x.1.1 : Nat), .int .u64 (x.1.2 : Nat), undef, .string s, .int .i64 s.size, .pointer (some ⟨w.heap.size, 2, none⟩), .int .i64 mx, .int .i64 (min s.size mx : Nat), .pointer (some ⟨w.heap.size, 1, none⟩), .int .i64 av, .int .u64 av, .int .i64 b, .string s, .pointer (some ⟨w.heap.size, 0, none⟩), .int .i64 mn, .int .i64 (min s.size mx : Nat),
      .func (.func 36) #[] #[.pointer (some ⟨w.heap.size + 1 + 1 + 1 + 1, 0, none⟩), .pointer (some ⟨w.heap.size + 1 + 1 + 1 + 1 + 1, 0, none⟩), .pointer (some ⟨w.heap.size + 1 + 1 + 1, 0, none⟩)], .int .i64 (x.1.1 : Nat), .int .u64 (x.1.2 : Nat), undef, undef, undef, undef, undef, undef, undef, undef, undef, undef, undef, undef, undef, undef, undef, undef, undef, undef, undef, undef, undef, undef, undef, undef, undef, undef], defers := [] }) ?assign ?body ?done ?stop
  case assign =>
    intro l x W K hK
    simp only [encH]
    gi_wp2
    exact hK
  case body =>
    rintro l pre x W ⟨⟨c1, c2, f2, c3⟩, hB, hp⟩ _
    obtain ⟨hh1, hh2, hh3⟩ := hashL_mem x.2
    obtain ⟨i, hi⟩ : ∃ i, x.1.1 = i := ⟨_, rfl⟩
    obtain ⟨h, hv⟩ : ∃ h, x.1.2 = h := ⟨_, rfl⟩
    have hsk : skips av b x.1 = if i < av then decide ((64 : Int) - (Lib.bitLen h : Int) ≤ b) else decide ((64 : Int) - (Lib.bitLen h : Int) < (b : Int) - 1) := by rw [← hi, ← hv]; rfl
    have hla : lastAt (pre ++ [x]) = i + 1 := by simp [lastAt, hi]
    have HSK := Lib.hid hsk
    have HLA := Lib.hid hla
    rw [hi] at hh1 hh2 ⊢
    rw [hv] at hh3 ⊢
    have hh4 : (h : Int) ≤ 18446744073709551615 := by unfold M at hh3; omega
    have hl := Lib.bitLen_le h 64 (Nat.le_refl _) (by omega)
    clear hsk hla hi hv hh3
    obtain ⟨z, hz⟩ : ∃ z : Int, z = 64 - (Lib.bitLen h : Int) := ⟨_, rfl⟩
    rw [← hz] at HSK
    by_cases hi : i < av
    · by_cases hz2 : z ≤ b
      · gi_wp2_with (refine ⟨trivial, ?_⟩; gi_at_call 29; refine (CallsIn.inRound l (callsIn_wide.2 (Tryd.bits_LeadingZeros64 (h : Int) _ (by omega) hh4))).mono ?_; rintro e w' ⟨rfl, rfl⟩)
        exact ⟨KeepsOthers.refl _, Below.refl _ _, ⟨⟨c1, c2, f2, c3⟩, hB, all_snoc hp (by rw [HSK.out]; rw [if_pos hi]; exact decide_eq_true hz2)⟩⟩
      · gi_wp2_with (refine ⟨trivial, ?_⟩; gi_at_call 29; refine (CallsIn.inRound l (callsIn_wide.2 (Tryd.bits_LeadingZeros64 (h : Int) _ (by omega) hh4))).mono ?_; rintro e w' ⟨rfl, rfl⟩)
        exact ⟨KeepsOthers.setCell _ _ _, by rw [HLA.out]; exact World.cell?_setCell_same' _ _ _ (by rw [c2]; rfl), hB.setCell (p := ⟨w.heap.size + 1, 0, none⟩) (by simp) _, rfl, pre, x, rfl, hp, by rw [HSK.out]; rw [if_pos hi]; exact decide_eq_false (by omega)⟩
    · by_cases hz2 : z < (b : Int) - 1
      · gi_wp2_with (refine ⟨trivial, ?_⟩; gi_at_call 29; refine (CallsIn.inRound l (callsIn_wide.2 (Tryd.bits_LeadingZeros64 (h : Int) _ (by omega) hh4))).mono ?_; rintro e w' ⟨rfl, rfl⟩)
        exact ⟨KeepsOthers.refl _, Below.refl _ _, ⟨⟨c1, c2, f2, c3⟩, hB, all_snoc hp (by rw [HSK.out]; rw [if_neg hi]; exact decide_eq_true hz2)⟩⟩
      · gi_wp2_with (refine ⟨trivial, ?_⟩; gi_at_call 29; refine (CallsIn.inRound l (callsIn_wide.2 (Tryd.bits_LeadingZeros64 (h : Int) _ (by omega) hh4))).mono ?_; rintro e w' ⟨rfl, rfl⟩)
        exact ⟨KeepsOthers.setCell _ _ _, by rw [HLA.out]; exact World.cell?_setCell_same' _ _ _ (by rw [c2]; rfl), hB.setCell (p := ⟨w.heap.size + 1, 0, none⟩) (by simp) _, rfl, pre, x, rfl, hp, by rw [HSK.out]; rw [if_neg hi]; exact decide_eq_false (by omega)⟩
  case done =>
    rintro D ys W hD rfl ⟨⟨c1, c2, f2, c3⟩, hB, hp⟩ hK
    gi_wp2
    go_wp2
    refine ⟨by simp, .inl ⟨_, _, rfl, run_takeDeferred hK, _, results_tmp rfl _ _ _, ?_, hB.trans (belowK_b (w := w) (Nat.le_refl _) W D _ _ (by omega) hK rfl rfl)⟩⟩
    rw [cutN_done _ _ _ _ _ hp]
    rfl
  case stop =>
    rintro D c pre W hD hpre ⟨hc, hB, rfl, hst⟩ hK
    gi_wp2
    go_wp2
    refine ⟨by simp, .inl ⟨_, _, rfl, run_takeDeferred hK, _, results_tmp rfl _ _ _, ?_, hB.trans (belowK_b (w := w) (Nat.le_refl _) W D _ _ (by omega) hK rfl rfl)⟩⟩
    rw [cutN_stop _ _ _ _ _ _ hpre hst]
    rfl

theorem cut_any (mn av mx b idx : Nat) (s : ByteArray) (w : World) (hs : s.size ≤ 9223372036854775807) (hav : (av : Int) = 2 ^ b) (hb1 : 1 ≤ b) (hb2 : b ≤ 12) (h1 : 1 ≤ mn) (h2 : mn ≤ av) (h3 : av ≤ mx) (h4 : mx ≤ 4096)
    (hx : ((av : Int) == 0) = false) (he : tzAt av = (idx : Int)) (hidx : idx < 64) (hc : ∀ W : World, Below w.heap.size w W → W.cell? ⟨1, idx, none⟩ = some (.int .u8 b)) :
    Calls Tryd.prog 16 #[.agg #[.int .i64 mn, .int .i64 av, .int .i64 mx], .string s] w fun e w' => e = .returned (.int .i64 (cutN mn av mx b s)) ∧ Below w.heap.size w w' :=
  callsIn_wide.1 (cut_in mn av mx b idx s w hs hav hb1 hb2 h1 h2 h3 h4 hx he hidx hc)

end Go.Proofs.YtkcailgfggbigaaDoor
