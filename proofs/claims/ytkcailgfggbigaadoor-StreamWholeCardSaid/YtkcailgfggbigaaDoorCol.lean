/-
  slices.Collect OVER A STREAM'S PIECES.
-/
import Derived.Test.YtkcailgfggbigaaDoorItr
import Derived.Maps.AppendAt
namespace Go.Proofs.YtkcailgfggbigaaDoor
open Go.RowKit Go.Shelf Go.Proofs.Gear Go.Proofs.Mem
attribute [local go_sem] Oper.semAt_some
set_option linter.unusedVariables false

/-- Between two rounds: the box holds a slice that owns what has come. -/
def HoldsRow (B : Nat) (pre : List ByteArray) (W : World) : Prop := ∃ v, Boxed W B 26 v ∧ W.ownsRow B 9 1 v pre.length (pre.map .string) ∧ True

theorem holds_own (B : Nat) : Own (HoldsRow B) := holdsRow_own B B 26 9 1 (fun pre : List ByteArray => pre.length) (fun pre => pre.map .string) (fun _ _ => True)
theorem boxed_on {W W' : World} {B : Nat} {t : TypeId} {v : Value} (h : Boxed W B t v) (hb : Below W.heap.size W W') : Boxed W' B t v := (hb.block B h.lt).trans h
theorem holds_stays (C B : Nat) (hC : C < B) : Stays C (HoldsRow B) := by
  refine ⟨fun s W W' h hb => ?_, fun s W v h => ?_⟩
  · obtain ⟨v, hv, hr, -⟩ := h
    exact ⟨v, boxed_on hv hb, own_on hr hb, trivial⟩
  · obtain ⟨u, hu, hr, -⟩ := h
    refine ⟨u, hu.kept (grownBy_setCell' W C v) (fun e => by cases e; omega), hr.kept (grownBy_setCell' W C v) ?_, trivial⟩
    rcases hr.2 with ⟨rfl, _⟩ | ⟨g, cap, cur, rfl, hg, _⟩
    · exact .inl rfl
    · refine .inr fun e => ?_
      have : g = C := by simpa [Value.ownBlock] using e
      omega

set_option maxHeartbeats 600000 in
theorem appendSeq_in {mn av mx b : Nat} (hf : FitN mn av mx b) (C Bc Bn th : Nat) (w : World) (hC : C < w.heap.size) (hBc : Bc < w.heap.size) (hBn : Bn < w.heap.size) (hCc : C ≠ Bc) (hCn : C ≠ Bn) (ht : 1 ≤ th) (ht2 : th ≤ 100000)
    (s : ByteArray) (hs : s.size ≤ 100000) (hL : ∀ V : World, Below C w V → Laid V) (hK : Cutter w C Bc Bn s mn av mx th) :
    CallsIn Fence.wide 9 Tryd.prog 40 #[.slice none 0 0, .func (.func 41) #[] #[.pointer (some ⟨Bc, 0, none⟩), .pointer (some ⟨Bn, 0, none⟩)]] w fun e w' =>
      ∃ v, e = .returned v ∧ w'.ownsRow w.heap.size 9 1 v (fed mn av mx b th s).1.length ((fed mn av mx b th s).1.map .string) ∧ Cutter w' C Bc Bn (fed mn av mx b th s).2 mn av mx th ∧ Below C w w' := by
  obtain ⟨i0, hi, hz0, hz1, hz2⟩ := info_parts Tryd.infoS
  have HF := Lib.hid hf
  clear hf
  have HL := Lib.hid hL
  clear hL
  refine callsIn_of_wp_marks Tryd.func40 rfl trivial ?_ rfl
  simp only [Tryd.ntmps40, List.size_toArray, List.length_cons, List.length_nil, Nat.reduceAdd, Nat.reduceSub, Array.replicate_succ, Array.replicate_zero, List.push_toArray, List.append_toArray, List.nil_append, List.cons_append]
  gi_wp2
  obtain ⟨W0, hW0⟩ : ∃ W0, w.alloc (.cells #[.slice none 0 0] 26) = W0 := ⟨_, rfl⟩
  have hsz : W0.heap.size = w.heap.size + 1 := by rw [← hW0]; simp
  have hbx : Boxed W0 w.heap.size 26 (.slice none 0 0) := by rw [← hW0]; exact Boxed.new _ _ _
  have hB0 : Below w.heap.size w W0 := by rw [← hW0]; exact (Below.refl _ w).alloc (Nat.le_refl _) _
  rw [hW0]
  clear hW0
  have hK0 := hK.on hB0 hC hBc hBn
  refine range_own C w.heap.size hC (by omega) (by omega) (gf := 41) (lb := #[.pointer (some ⟨Bc, 0, none⟩), .pointer (some ⟨Bn, 0, none⟩)]) rfl (enters_of Tryd.func41 (by kernel_rfl) rfl) (enc := fun x : ByteArray => #[.string x]) (fun _ => rfl)
    (fun xs W => xs = (fed mn av mx b th s).1 ∧ Cutter W C Bc Bn (fed mn av mx b th s).2 mn av mx th ∧ Below C w W) (fun xs W W' h hb => ⟨h.1, h.2.1.on hb (by omega) (by omega) (by omega), h.2.2.trans (hb.mono (by omega))⟩) 100000
    (fun l J W hW hJ hY h0 => ?seq) (HoldsRow w.heap.size) ((holds_own _).from _) (holds_stays C _ hC) ⟨_, hbx, World.ownsRow_nil _ _ _ _, trivial⟩
    (fun x => { tmps := #[.slice none 0 0, .func (.func 41) #[] #[.pointer (some ⟨Bc, 0, none⟩), .pointer (some ⟨Bn, 0, none⟩)], .pointer (some ⟨w.heap.size, 0, none⟩), undef, .slice none 0 0, .string x, .func (.func 41) #[] #[.pointer (some ⟨Bc, 0, none⟩), .pointer (some ⟨Bn, 0, none⟩)], .string x, undef, undef, undef, undef, undef], defers := [] }) ?assign ?body ?done
  case seq =>
    refine (pieces1_in HF.out l C Bc Bn w.heap.size 100000 th J hJ hC hBc hBn hCc hCn ht ht2 hY s hs (by omega) W (by have := hW.size; omega) (fun V hV => HL.out V ((hB0.mono (by omega)).trans ((hW.mono (by omega)).trans hV))) (hK0.on hW (by omega) (by omega) (by omega)) h0).mono ?_
    rintro e W' ⟨he, hJ', hK', hB'⟩
    exact ⟨he, _, ⟨rfl, hK', (hB0.mono (by omega)).trans ((hW.mono (by omega)).trans hB')⟩, hJ'⟩
  case assign =>
    intro l x W K hK
    gi_wp2
    exact hK
  case body =>
    rintro l pre x W ⟨v, hv, hrow, -⟩ hlen
    have hvc := hv.cell
    have hle := hv.lt
    gi_wp2_with (gi_at_builtin; refine wpListIn_append_own _ rfl _ _ 26 rfl w.heap.size 9 i0 (.string ⟨#[]⟩) 1 16 Tryd.underlying26 hi hz0 hz1 hz2 rfl (by decide) _ _ _ rfl (hrow.alloc _) ⟨W.heap.size, 0, none⟩ 1 1 [.string x] rfl rfl (cell_one_new _ _ _) (by simp [Value.oneCell']) (by unfold maxLen; omega) (by omega) (by simp; omega) ?_; intro v' w1 hown' hgrow _; obtain ⟨g', cap', rfl⟩ := ownsRow_succ hown'; obtain ⟨hv1, hv2, hr2, hk2, hb2⟩ := hv.appended (by decide) hrow (Nat.le_of_lt hle) (Nat.le_refl _) hown' hgrow; have hc1 := hv1.cell; have hf1 := hv1.frozen)
    exact ⟨hk2, hb2, ⟨_, hv2, by simpa using hr2, trivial⟩⟩
  case done =>
    rintro D xs W hD ⟨rfl, hK', hB'⟩ ⟨v, hv, hrow, -⟩ hDf
    have hvc := hv.cell
    gi_wp2
    have hb3 := belowK_b (w := W0) (Nat.le_refl _) W D _ (.deferred none) hD hDf rfl rfl
    refine ⟨by simp, .inl ⟨_, _, rfl, run_takeDeferred hDf, ?_⟩⟩
    exact ⟨_, results_tmp rfl _ _ _, v, rfl, ownsRow_putObj hrow _ hDf rfl, hK'.on hb3 (by omega) (by omega) (by omega), hB'.trans (hb3.mono (by omega))⟩


/-- A slice of texts, and the cutter behind it. -/
def Collected (w : World) (C Bc Bn : Nat) (mn av mx b th : Nat) (s : ByteArray) (e : Ending) (w' : World) : Prop :=
  ∃ v, e = .returned v ∧ w'.ownsRow w.heap.size 9 1 v (fed mn av mx b th s).1.length ((fed mn av mx b th s).1.map .string) ∧ Cutter w' C Bc Bn (fed mn av mx b th s).2 mn av mx th ∧ Below C w w'

theorem collect_any {mn av mx b : Nat} (hf : FitN mn av mx b) (C Bc Bn th : Nat) (w : World) (hC : C < w.heap.size) (hBc : Bc < w.heap.size) (hBn : Bn < w.heap.size) (hCc : C ≠ Bc) (hCn : C ≠ Bn) (ht : 1 ≤ th) (ht2 : th ≤ 100000)
    (s : ByteArray) (hs : s.size ≤ 100000) (hL : ∀ V : World, Below C w V → Laid V) (hK : Cutter w C Bc Bn s mn av mx th) :
    Calls Tryd.prog 32 #[.func (.func 41) #[] #[.pointer (some ⟨Bc, 0, none⟩), .pointer (some ⟨Bn, 0, none⟩)]] w (Collected w C Bc Bn mn av mx b th s) := by
  have H := fun (W : World) (h : W = w) => Lib.hid (callsIn_wide.1 (appendSeq_in hf C Bc Bn th w hC hBc hBn hCc hCn ht ht2 s hs hL hK))
  clear hf hL hK
  go_enter Tryd.func32, Tryd.ntmps32
  go_wp2_with (go_at_call 40; refine Calls.mono (H _ rfl).out ?_; rintro e w' ⟨v, rfl, hr, hK', hB'⟩)
  go_ret
  exact ⟨v, rfl, hr, hK', hB'⟩

end Go.Proofs.YtkcailgfggbigaaDoor
