/-
  Two lists that rise in one: the program's loop.
-/
import Derived.Test.YtjjenpklcbpkmaaIMrg
namespace Go.Proofs.Ytjjenpklcbpkmaa
open Go.RowKit Go.Proofs.Mem
set_option linter.unusedVariables false

/-- Six cells, of two slots. -/
structure Six (w : World) (ba oa bb ob : Nat) (x y : Slt) : Prop where
  la : ba < w.heap.size
  lb : bb < w.heap.size
  a1 : w.cell? ⟨ba, oa, none⟩ = some (.string x.k)
  a2 : w.cell? ⟨ba, oa + 1, none⟩ = some (.int .i64 x.a)
  a3 : w.cell? ⟨ba, oa + 2, none⟩ = some (.int .i64 x.s)
  b1 : w.cell? ⟨bb, ob, none⟩ = some (.string y.k)
  b2 : w.cell? ⟨bb, ob + 1, none⟩ = some (.int .i64 y.a)
  b3 : w.cell? ⟨bb, ob + 2, none⟩ = some (.int .i64 y.s)
theorem Six.on {w w' : World} {ba oa bb ob : Nat} {x y : Slt} (h : Six w ba oa bb ob x y) (hb : Below w.heap.size w w') : Six w' ba oa bb ob x y :=
  ⟨Nat.lt_of_lt_of_le h.la hb.size, Nat.lt_of_lt_of_le h.lb hb.size, (hb.cell (p := ⟨ba, oa, none⟩) h.la).trans h.a1, (hb.cell (p := ⟨ba, oa + 1, none⟩) h.la).trans h.a2, (hb.cell (p := ⟨ba, oa + 2, none⟩) h.la).trans h.a3,
    (hb.cell (p := ⟨bb, ob, none⟩) h.lb).trans h.b1, (hb.cell (p := ⟨bb, ob + 1, none⟩) h.lb).trans h.b2, (hb.cell (p := ⟨bb, ob + 2, none⟩) h.lb).trans h.b3⟩
theorem keep6 {w w' : World} {ba oa bb ob : Nat} {x y : Slt} (h : Six w ba oa bb ob x y) (hb : Hid (Below w.heap.size w w')) :
    w'.cell? ⟨ba, oa, none⟩ = some (.string x.k) ∧ w'.cell? ⟨ba, oa + 1, none⟩ = some (.int .i64 x.a) ∧ w'.cell? ⟨ba, oa + 2, none⟩ = some (.int .i64 x.s) ∧ w'.cell? ⟨bb, ob, none⟩ = some (.string y.k) ∧ w'.cell? ⟨bb, ob + 1, none⟩ = some (.int .i64 y.a) ∧ w'.cell? ⟨bb, ob + 2, none⟩ = some (.int .i64 y.s) ∧ Hid (Below w.heap.size w w') :=
  ⟨(h.on hb.out).a1, (h.on hb.out).a2, (h.on hb.out).a3, (h.on hb.out).b1, (h.on hb.out).b2, (h.on hb.out).b3, hb⟩

set_option maxRecDepth 100000 in
set_option maxHeartbeats 4000000 in
theorem merged_any (u v : Value) (a0 b0 : List Slt) (w : World) (hu : Slots w w.heap.size u a0) (hv : Slots w w.heap.size v b0) (hlen : a0.length + b0.length ≤ 200000) :
    Calls Try.prog 42 #[u, v, .func (.func 43) #[] #[]] w fun e w' => ∃ D, e = .returned D ∧ OwnS w' w.heap.size D (mergeL a0 b0) ∧ Below w.heap.size w w' := by
  obtain ⟨i0, hi, hz0, hz1, hz2⟩ := info_parts info_slot
  have HU := Lib.hid hu
  have HV := Lib.hid hv
  have HL := Lib.hid hlen
  clear hu hv hlen
  go_enter Try.func42, Try.ntmps42
  go_wp2_with fail
  go_loopw [0, 1, 7, 18, 35] (fun v0 v1 out _ _ wr => ∃ (a b o : List Slt), Hid (Slots w w.heap.size v0 a) ∧ Hid (Slots w w.heap.size v1 b) ∧ Hid (OwnS wr w.heap.size out o) ∧ Hid (o ++ mergeL a b = mergeL a0 b0) ∧ Hid (o.length + (a.length + b.length) ≤ 200000) ∧ Hid (Below w.heap.size w wr)) (fun v0 v1 _ _ _ _ => lenV v0 + lenV v1)
  case atStart => exact ⟨a0, b0, [], HU, HV, Lib.hid (World.ownsRow_nil _ _ _ _), Lib.hid rfl, Lib.hid (by have := HL.out; simp; omega), Lib.hid (Below.refl _ _)⟩
  case round =>
    obtain ⟨a, b, o, hA, hB, hO, hM, hL, hW⟩ := hrel
    obtain ⟨A, ca, rfl, hca, hcam, hRA⟩ := hA.out
    obtain ⟨B, cb, rfl, hcb, hcbm, hRB⟩ := hB.out
    have hL0 := hL.out
    cases a with
    | nil =>
      have HRA := Lib.hid hRA
      have HRB := Lib.hid hRB
      have hbl : b.length ≤ 200000 := by have := hL0; simp at this; omega
      have HE : Hid (o ++ b = mergeL a0 b0) := Lib.hid (by rw [← hM.out, mergeL_nil'])
      clear hRA hRB hL0 hca hcb
      go_wp2_with (first
        | (at_builtin
           refine wpList_append_slots rfl _ _ rfl w.heap.size i0 hi hz0 hz1 hz2 _ o rfl hO.out wr.heap.size A [] _ ca rfl rfl ((HRA.out.below hW.out).more hW.out.size) (by have := hL.out; simp at *; omega) hW.out.size ?_
           intro v1 w1 hown1 hgrow1
           have HO1 := Lib.hid hown1
           have HG1 := Lib.hid (hW.out.grown hgrow1 hW.out.size (fun q hq => (hO.out.lt q hq).1))
           clear hown1 hgrow1)
        | (at_builtin
           refine wpList_append_slots rfl _ _ rfl w.heap.size i0 hi hz0 hz1 hz2 _ (o ++ []) rfl HO1.out w1.heap.size B b _ cb rfl rfl ((HRB.out.below HG1.out).more HG1.out.size) (by have := hL.out; simp at *; omega) HG1.out.size ?_
           intro v2 w2 hown2 hgrow2
           have HO2 := Lib.hid hown2
           have HG2 := Lib.hid (HG1.out.grown hgrow2 HG1.out.size (fun q hq => (HO1.out.lt q hq).1))
           clear hown2 hgrow2))
      go_ret
      exact ⟨_, rfl, by rw [← HE.out]; have h := HO2.out; rw [List.append_nil] at h; exact h, HG2.out⟩
    | cons x a =>
      cases b with
      | nil =>
        have HRA := Lib.hid hRA
        have HRB := Lib.hid hRB
        obtain ⟨na, hna⟩ : ∃ n, n = (x :: a).length := ⟨_, rfl⟩
        have hna1 : (0 : Int) < (na : Int) := by rw [hna, List.length_cons]; omega
        have hnam : na ≤ 200000 := by rw [hna]; omega
        have HE : Hid (o ++ (x :: a) = mergeL a0 b0) := Lib.hid (by rw [← hM.out, mergeL_nil])
        rw [← hna]
        have HNA := Lib.hid hna
        clear hRA hRB hL0 hca hcb hna
        go_wp2_with (first
          | (at_builtin
             refine wpList_append_slots rfl _ _ rfl w.heap.size i0 hi hz0 hz1 hz2 _ o rfl hO.out wr.heap.size A (x :: a) _ ca rfl HNA.out ((HRA.out.below hW.out).more hW.out.size) (by have := hL.out; simp at *; omega) hW.out.size ?_
             intro v1 w1 hown1 hgrow1
             have HO1 := Lib.hid hown1
             have HG1 := Lib.hid (hW.out.grown hgrow1 hW.out.size (fun q hq => (hO.out.lt q hq).1))
             clear hown1 hgrow1)
          | (at_builtin
             refine wpList_append_slots rfl _ _ rfl w.heap.size i0 hi hz0 hz1 hz2 _ (o ++ (x :: a)) rfl HO1.out w1.heap.size B [] _ cb rfl rfl ((HRB.out.below HG1.out).more HG1.out.size) (by have := hL.out; simp at *; omega) HG1.out.size ?_
             intro v2 w2 hown2 hgrow2
             have HO2 := Lib.hid hown2
             have HG2 := Lib.hid (HG1.out.grown hgrow2 HG1.out.size (fun q hq => (HO1.out.lt q hq).1))
             clear hown2 hgrow2))
        go_ret
        exact ⟨_, rfl, by rw [← HE.out]; have h := HO2.out; rw [List.append_nil] at h; exact h, HG2.out⟩
      | cons y b =>
        obtain ⟨na, hna⟩ : ∃ n, n = (x :: a).length := ⟨_, rfl⟩
        obtain ⟨nb, hnb⟩ : ∃ n, n = (y :: b).length := ⟨_, rfl⟩
        have HTA := Lib.hid (slots_tail hna hca hcam hRA)
        have HTB := Lib.hid (slots_tail hnb hcb hcbm hRB)
        obtain ⟨ba, oa, rfl, hba, a0', a1', a2'⟩ := slots_head hRA
        obtain ⟨bb, ob, rfl, hbb, b0', b1', b2'⟩ := slots_head hRB
        have hna1 : 1 ≤ na := by rw [hna, List.length_cons]; omega
        have hnb1 : 1 ≤ nb := by rw [hnb, List.length_cons]; omega
        have hnam : na ≤ 200000 := by rw [hna]; omega
        have hnbm : nb ≤ 200000 := by rw [hnb]; omega
        have hnac : na ≤ ca := by rw [hna]; exact hca
        have hnbc : nb ≤ cb := by rw [hnb]; exact hcb
        rw [← hna, ← hnb]
        have HNA := Lib.hid hna
        have HNB := Lib.hid hnb
        have H6 := Lib.hid (show Six w ba oa bb ob x y from ⟨hba, hbb, a0', a1', a2', b0', b1', b2'⟩)
        have H6r := Lib.hid (H6.out.on hW.out)
        have hS0 := keep6 H6r.out (Lib.hid (Below.refl _ _).drew)
        clear hna hnb hRA hRB a0' a1' a2' b0' b1' b2' hL0 hca hcb
        have ia : (1 : Int) ≤ (na : Int) := by omega
        have ib : (1 : Int) ≤ (nb : Int) := by omega
        have ia0 : (0 : Int) < (na : Int) := by omega
        have ib0 : (0 : Int) < (nb : Int) := by omega
        cases hyx : ltB y.k x.k with
        | true =>
          have HLS := Lib.hid (fun W => less_any y x W)
          rw [hyx] at HLS
          have HYX := Lib.hid hyx
          clear hyx
          go_wp2_with fail
          go_region_held3 (fun w' => w'.cell? ⟨ba, oa, none⟩ = some (.string x.k) ∧ w'.cell? ⟨ba, oa + 1, none⟩ = some (.int .i64 x.a) ∧ w'.cell? ⟨ba, oa + 2, none⟩ = some (.int .i64 x.s) ∧ w'.cell? ⟨bb, ob, none⟩ = some (.string y.k) ∧ w'.cell? ⟨bb, ob + 1, none⟩ = some (.int .i64 y.a) ∧ w'.cell? ⟨bb, ob + 2, none⟩ = some (.int .i64 y.s) ∧ Hid (Below wr.heap.size wr w'))
            (first | exact hS0 | (go_split_ands; exact keep6 H6r.out (Lib.hid (bel (Hid.out ‹Hid (Below wr.heap.size wr _)›) ‹_›))))
            ((go_at_call 43; refine Calls.mono (HLS.out _) ?_; rintro e wl ⟨rfl, hBwl⟩))
          go_split_ands
          have HBwl : Hid (Below wr.heap.size wr wl) := Lib.hid (Hid.out ‹Hid (Below wr.heap.size wr wl)›)
          have HWwl := Lib.hid (bel hW.out HBwl.out)
          have HOl := Lib.hid (own_below hO.out HBwl.out)
          have hS1 := keep6 H6.out (Lib.hid HWwl.out.drew)
          go_wp2_with fail
          go_region_held3 (fun w' => w'.cell? ⟨ba, oa, none⟩ = some (.string x.k) ∧ w'.cell? ⟨ba, oa + 1, none⟩ = some (.int .i64 x.a) ∧ w'.cell? ⟨ba, oa + 2, none⟩ = some (.int .i64 x.s) ∧ w'.cell? ⟨bb, ob, none⟩ = some (.string y.k) ∧ w'.cell? ⟨bb, ob + 1, none⟩ = some (.int .i64 y.a) ∧ w'.cell? ⟨bb, ob + 2, none⟩ = some (.int .i64 y.s) ∧ Hid (Below w.heap.size w w'))
            (first
              | exact hS1
              | exact keep6 H6.out (Lib.hid (HWwl.out.alloc HWwl.out.size _).drew)
              | exact keep6 H6.out HG)
            ((refine step_append_lies _ (by rfl) _ _ _ (by rfl) w.heap.size 34 i0 (.agg #[.string ⟨#[]⟩, .int .i64 0, .int .i64 0]) 3 32 Try.underlying22 hi hz0 hz1 hz2 rfl (by decide) u7 o.length (cellsL o) (by rfl) (World.ownsRow.alloc (own_drewN HOl.out _) _) ⟨wl.heap.size, 0, none⟩ 1 1 [.string y.k, .int .i64 y.a, .int .i64 y.s] (by rfl) (by rfl) (fun j u hj => alloc_cells _ _ _ hj) (cells_one y) (by decide) (by have := hL.out; unfold maxLen; omega) (by have := hL.out; omega) (by have := HWwl.out.size; simp; omega) (wl.heap.size + 1) (by simp) ?_; intro g cap w3 hown hgrow hat hglt; have HG : Hid (Below w.heap.size w w3) := Lib.hid (((below_drewN HWwl.out _).alloc HWwl.out.size _).grown hgrow (by have := HWwl.out.size; simp; omega) (fun q hq => (HOl.out.lt q hq).1))))
          have HO3 : Hid (OwnS w3 w.heap.size (.slice (some ⟨g, 0, none⟩) (o.length + 1) cap) (o ++ [y])) := Lib.hid (by
            unfold OwnS
            rw [cellsL_snoc, List.length_append]
            exact hown)
          clear hown hgrow hat hglt hS1
          have HM3 : Hid ((o ++ [y]) ++ mergeL (x :: a) b = mergeL a0 b0) := Lib.hid (by rw [← hM.out, mergeL_y HYX.out, List.append_assoc]; rfl)
          go_wp2_with fail
          go_roundw
          case rel => exact ⟨x :: a, b, o ++ [y], Lib.hid (by rw [HNA.out]; exact hA.out), HTB, HO3, HM3, Lib.hid (by have := hL.out; simp only [List.length_append, List.length_cons, List.length_nil] at *; omega), HG⟩
          case measure => simp [lenV]; omega
        | false =>
          have HLS := Lib.hid (fun W => less_any y x W)
          rw [hyx] at HLS
          have HYX := Lib.hid hyx
          clear hyx
          have HLT := Lib.hid (fun W => less_any x y W)
          cases hxy : ltB x.k y.k with
          | true =>
            rw [hxy] at HLT
            have HXY := Lib.hid hxy
            clear hxy
            go_wp2_with fail
            go_region_held3 (fun w' => w'.cell? ⟨ba, oa, none⟩ = some (.string x.k) ∧ w'.cell? ⟨ba, oa + 1, none⟩ = some (.int .i64 x.a) ∧ w'.cell? ⟨ba, oa + 2, none⟩ = some (.int .i64 x.s) ∧ w'.cell? ⟨bb, ob, none⟩ = some (.string y.k) ∧ w'.cell? ⟨bb, ob + 1, none⟩ = some (.int .i64 y.a) ∧ w'.cell? ⟨bb, ob + 2, none⟩ = some (.int .i64 y.s) ∧ Hid (Below wr.heap.size wr w'))
              (first | exact hS0 | (go_split_ands; exact keep6 H6r.out (Lib.hid (bel (Hid.out ‹Hid (Below wr.heap.size wr _)›) ‹_›))))
              ((go_at_call 43; refine Calls.mono (HLS.out _) ?_; rintro e wl ⟨rfl, hBwl⟩))
            go_split_ands
            have HBwl : Hid (Below wr.heap.size wr wl) := Lib.hid (Hid.out ‹Hid (Below wr.heap.size wr wl)›)
            have HWwl := Lib.hid (bel hW.out HBwl.out)
            have HOl := Lib.hid (own_below hO.out HBwl.out)
            have H6l := Lib.hid (H6r.out.on HBwl.out)
            have hS2 := keep6 H6l.out (Lib.hid (Below.refl _ _).drew)
            go_wp2_with fail
            go_region_held3 (fun w' => w'.cell? ⟨ba, oa, none⟩ = some (.string x.k) ∧ w'.cell? ⟨ba, oa + 1, none⟩ = some (.int .i64 x.a) ∧ w'.cell? ⟨ba, oa + 2, none⟩ = some (.int .i64 x.s) ∧ w'.cell? ⟨bb, ob, none⟩ = some (.string y.k) ∧ w'.cell? ⟨bb, ob + 1, none⟩ = some (.int .i64 y.a) ∧ w'.cell? ⟨bb, ob + 2, none⟩ = some (.int .i64 y.s) ∧ Hid (Below wl.heap.size wl w'))
              (first | exact hS2 | (go_split_ands; exact keep6 H6l.out (Lib.hid (bel (Hid.out ‹Hid (Below wl.heap.size wl _)›) ‹_›))))
              ((go_at_call 43; refine Calls.mono (HLT.out _) ?_; rintro e wm ⟨rfl, hBwm⟩))
            go_split_ands
            have HBwm : Hid (Below wl.heap.size wl wm) := Lib.hid (Hid.out ‹Hid (Below wl.heap.size wl wm)›)
            have HWwm := Lib.hid (bel HWwl.out HBwm.out)
            have HOm := Lib.hid (own_below HOl.out HBwm.out)
            have hS1 := keep6 H6.out (Lib.hid HWwm.out.drew)
            go_wp2_with fail
            go_region_held3 (fun w' => w'.cell? ⟨ba, oa, none⟩ = some (.string x.k) ∧ w'.cell? ⟨ba, oa + 1, none⟩ = some (.int .i64 x.a) ∧ w'.cell? ⟨ba, oa + 2, none⟩ = some (.int .i64 x.s) ∧ w'.cell? ⟨bb, ob, none⟩ = some (.string y.k) ∧ w'.cell? ⟨bb, ob + 1, none⟩ = some (.int .i64 y.a) ∧ w'.cell? ⟨bb, ob + 2, none⟩ = some (.int .i64 y.s) ∧ Hid (Below w.heap.size w w'))
              (first
                | exact hS1
                | exact keep6 H6.out (Lib.hid (HWwm.out.alloc HWwm.out.size _).drew)
                | exact keep6 H6.out HG)
              ((refine step_append_lies _ (by rfl) _ _ _ (by rfl) w.heap.size 34 i0 (.agg #[.string ⟨#[]⟩, .int .i64 0, .int .i64 0]) 3 32 Try.underlying22 hi hz0 hz1 hz2 rfl (by decide) u7 o.length (cellsL o) (by rfl) (World.ownsRow.alloc (own_drewN HOm.out _) _) ⟨wm.heap.size, 0, none⟩ 1 1 [.string x.k, .int .i64 x.a, .int .i64 x.s] (by rfl) (by rfl) (fun j u hj => alloc_cells _ _ _ hj) (cells_one x) (by decide) (by have := hL.out; unfold maxLen; omega) (by have := hL.out; omega) (by have := HWwm.out.size; simp; omega) (wm.heap.size + 1) (by simp) ?_; intro g cap w3 hown hgrow hat hglt; have HG : Hid (Below w.heap.size w w3) := Lib.hid (((below_drewN HWwm.out _).alloc HWwm.out.size _).grown hgrow (by have := HWwm.out.size; simp; omega) (fun q hq => (HOm.out.lt q hq).1))))
            have HO3 : Hid (OwnS w3 w.heap.size (.slice (some ⟨g, 0, none⟩) (o.length + 1) cap) (o ++ [x])) := Lib.hid (by
              unfold OwnS
              rw [cellsL_snoc, List.length_append]
              exact hown)
            clear hown hgrow hat hglt hS1
            have HM3 : Hid ((o ++ [x]) ++ mergeL a (y :: b) = mergeL a0 b0) := Lib.hid (by rw [← hM.out, mergeL_x HXY.out, List.append_assoc]; rfl)
            go_wp2_with fail
            go_roundw
            case rel => exact ⟨a, y :: b, o ++ [x], HTA, Lib.hid (by rw [HNB.out]; exact hB.out), HO3, HM3, Lib.hid (by have := hL.out; simp only [List.length_append, List.length_cons, List.length_nil] at *; omega), HG⟩
            case measure => simp [lenV]; omega
          | false =>
            rw [hxy] at HLT
            have HXY := Lib.hid hxy
            clear hxy
            go_wp2_with fail
            go_region_held3 (fun w' => w'.cell? ⟨ba, oa, none⟩ = some (.string x.k) ∧ w'.cell? ⟨ba, oa + 1, none⟩ = some (.int .i64 x.a) ∧ w'.cell? ⟨ba, oa + 2, none⟩ = some (.int .i64 x.s) ∧ w'.cell? ⟨bb, ob, none⟩ = some (.string y.k) ∧ w'.cell? ⟨bb, ob + 1, none⟩ = some (.int .i64 y.a) ∧ w'.cell? ⟨bb, ob + 2, none⟩ = some (.int .i64 y.s) ∧ Hid (Below wr.heap.size wr w'))
              (first | exact hS0 | (go_split_ands; exact keep6 H6r.out (Lib.hid (bel (Hid.out ‹Hid (Below wr.heap.size wr _)›) ‹_›))))
              ((go_at_call 43; refine Calls.mono (HLS.out _) ?_; rintro e wl ⟨rfl, hBwl⟩))
            go_split_ands
            have HBwl : Hid (Below wr.heap.size wr wl) := Lib.hid (Hid.out ‹Hid (Below wr.heap.size wr wl)›)
            have HWwl := Lib.hid (bel hW.out HBwl.out)
            have HOl := Lib.hid (own_below hO.out HBwl.out)
            have H6l := Lib.hid (H6r.out.on HBwl.out)
            have hS2 := keep6 H6l.out (Lib.hid (Below.refl _ _).drew)
            go_wp2_with fail
            go_region_held3 (fun w' => w'.cell? ⟨ba, oa, none⟩ = some (.string x.k) ∧ w'.cell? ⟨ba, oa + 1, none⟩ = some (.int .i64 x.a) ∧ w'.cell? ⟨ba, oa + 2, none⟩ = some (.int .i64 x.s) ∧ w'.cell? ⟨bb, ob, none⟩ = some (.string y.k) ∧ w'.cell? ⟨bb, ob + 1, none⟩ = some (.int .i64 y.a) ∧ w'.cell? ⟨bb, ob + 2, none⟩ = some (.int .i64 y.s) ∧ Hid (Below wl.heap.size wl w'))
              (first | exact hS2 | (go_split_ands; exact keep6 H6l.out (Lib.hid (bel (Hid.out ‹Hid (Below wl.heap.size wl _)›) ‹_›))))
              ((go_at_call 43; refine Calls.mono (HLT.out _) ?_; rintro e wm ⟨rfl, hBwm⟩))
            go_split_ands
            have HBwm : Hid (Below wl.heap.size wl wm) := Lib.hid (Hid.out ‹Hid (Below wl.heap.size wl wm)›)
            have HWwm := Lib.hid (bel HWwl.out HBwm.out)
            have HOm := Lib.hid (own_below HOl.out HBwm.out)
            have HM3 : Hid (o ++ mergeL (x :: a) b = mergeL a0 b0) := Lib.hid (by rw [← hM.out, mergeL_e HYX.out HXY.out])
            go_wp2_with fail
            go_roundw
            case rel => exact ⟨x :: a, b, o, Lib.hid (by rw [HNA.out]; exact hA.out), HTB, HOm, HM3, Lib.hid (by have := hL.out; simp only [List.length_cons] at *; omega), HWwm⟩
            case measure => simp [lenV]; omega

end Go.Proofs.Ytjjenpklcbpkmaa
