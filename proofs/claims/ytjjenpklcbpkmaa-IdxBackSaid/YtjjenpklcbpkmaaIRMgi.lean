/-
  An index of two: the document's package.
-/
import Derived.Test.YtjjenpklcbpkmaaIMgi
import Derived.Deep.QuietTactic
import Derived.BigQuiet
namespace Go.Proofs.Ytjjenpklcbpkmaa
open Go.RowKit Go.Proofs.Mem
set_option linter.unusedVariables false

def docL : List Slt → List Slt → List Slt
  | [], b => b
  | x :: a, [] => x :: a
  | x :: a, y :: b => if ltB y.k x.k then y :: docL (x :: a) b else if y.k = x.k then x :: docL a b else x :: docL a (y :: b)
termination_by a b => a.length + b.length
theorem docL_nil (a : List Slt) : docL a [] = a := by cases a <;> simp [docL]
theorem docL_nil' (b : List Slt) : docL [] b = b := by simp [docL]
theorem docL_y {x y : Slt} {a b : List Slt} (h : ltB y.k x.k = true) : docL (x :: a) (y :: b) = y :: docL (x :: a) b := by rw [docL, if_pos h]
theorem docL_e {x y : Slt} {a b : List Slt} (h : y.k = x.k) : docL (x :: a) (y :: b) = x :: docL a b := by
  rw [docL, if_neg (by rw [h, ltB_irrefl]; decide), if_pos h]
theorem docL_x {x y : Slt} {a b : List Slt} (h : ltB y.k x.k = false) (h2 : ¬ y.k = x.k) : docL (x :: a) (y :: b) = x :: docL a (y :: b) := by
  rw [docL, if_neg (by rw [h]; decide), if_neg h2]

theorem rises_tail {x : Slt} {a : List Slt} (h : Rises (x :: a)) : Rises a := fun i j y z hij hy hz => h (i + 1) (j + 1) y z (by omega) (by simpa using hy) (by simpa using hz)
theorem rises_head {x : Slt} {a : List Slt} (h : Rises (x :: a)) : ∀ y ∈ a, ltB x.k y.k = true := by
  intro y hy
  obtain ⟨j, hj, rfl⟩ := List.getElem_of_mem hy
  exact h 0 (j + 1) x a[j] (by omega) rfl (by simp [hj])
theorem mergeL_above {x : Slt} {a : List Slt} : ∀ (b : List Slt), (∀ y ∈ b, ltB x.k y.k = true) → mergeL (x :: a) b = x :: mergeL a b
  | [], _ => by rw [mergeL_nil, mergeL_nil]
  | y :: b, h => mergeL_x (h y List.mem_cons_self)
theorem doc_merge : ∀ (a b : List Slt), Rises a → Rises b → docL a b = mergeL a b
  | [], b, _, _ => by rw [docL_nil', mergeL_nil']
  | x :: a, [], _, _ => by rw [docL_nil, mergeL_nil]
  | x :: a, y :: b, ha, hb => by
    have ta := rises_tail ha
    have tb := rises_tail hb
    cases h : ltB y.k x.k with
    | true => rw [docL_y h, mergeL_y h, doc_merge (x :: a) b ha tb]
    | false =>
      by_cases h2 : y.k = x.k
      · rw [docL_e h2, mergeL_e h (by rw [← h2, ltB_irrefl]), mergeL_above b (fun z hz => by rw [← h2]; exact rises_head hb z hz), doc_merge a b ta tb]
      · have h3 : ltB x.k y.k = true := by
          cases h4 : ltB x.k y.k with
          | true => rfl
          | false => exact absurd (ltB_tri h h4) h2
        rw [docL_x h h2, mergeL_x h3, doc_merge a (y :: b) ta hb]
termination_by a b => a.length + b.length

set_option maxRecDepth 100000 in
set_option maxHeartbeats 4000000 in
theorem rmerge_any (s t : ByteArray) (w : World) (hs : s.size ≤ 1000000) (ht : t.size ≤ 1000000) :
    Calls Try.prog 16 #[.string s, .string t] w fun e w' => e = .returned (.tuple #[.string (mergeB s t), .int .i64 (mergeC s t : Nat)]) ∧ Below w.heap.size w w' := by
  obtain ⟨i0, hi, hz0, hz1, hz2⟩ := info_parts info_slot
  have HRS := Lib.hid (fun W => rread_any s W hs)
  have HRT := Lib.hid (fun W => rread_any t W ht)
  have hls := readL_len hs
  have hlt := readL_len ht
  have hsz := merge_sized s t
  have hdoc := doc_merge _ _ (readL_rises s) (readL_rises t)
  obtain ⟨c, hc⟩ : ∃ c, c = mergeC s t := ⟨_, rfl⟩
  obtain ⟨r, hr⟩ : ∃ r, r = mergeB s t := ⟨_, rfl⟩
  have hr' := hr
  unfold mergeB at hr'
  have hc' := hc
  unfold mergeC at hc'
  rw [← hc] at hr' ⊢
  rw [← hr]
  obtain ⟨c1, hc1⟩ : ∃ c, c = codeOf s := ⟨_, rfl⟩
  obtain ⟨c2, hc2⟩ : ∃ c, c = codeOf t := ⟨_, rfl⟩
  obtain ⟨l, hl⟩ : ∃ l, l = readL s := ⟨_, rfl⟩
  obtain ⟨m, hm⟩ : ∃ l, l = readL t := ⟨_, rfl⟩
  rw [← hc1] at HRS hc'
  rw [← hc2] at HRT hc'
  rw [← hl] at HRS hls hsz hr' hc' hdoc
  rw [← hm] at HRT hlt hsz hr' hc' hdoc
  clear hc hr hc1 hc2 hl hm hs ht
  by_cases h1 : c1 = 0
  case neg =>
    rw [if_pos h1] at hc'
    subst hc'
    rw [if_neg h1] at hr'
    subst hr'
    have hq : ((c : Int) != 0) = true := by simp; omega
    clear h1 hdoc
    go_enter Try.func16, Try.ntmps16
    go_wp2_with (go_at_call 9; refine Calls.mono (HRS.out _) ?_; rintro e w1 ⟨D, rfl, hD, hB1⟩; have HB1 := Lib.hid hB1; clear hB1 hD)
    go_ret2
    exact ⟨rfl, HB1.out⟩
  subst h1
  rw [if_neg (fun h => h rfl)] at hc'
  by_cases h2 : c2 = 0
  case neg =>
    rw [if_pos h2] at hc'
    subst hc'
    rw [if_neg h2] at hr'
    subst hr'
    have hq : ((c : Int) != 0) = true := by simp; omega
    clear h2 hdoc
    go_enter Try.func16, Try.ntmps16
    go_wp2_with (first
      | (go_at_call 9; (with_reducible refine Calls.mono (HRS.out _) ?_); rintro e w1 ⟨D, rfl, hD, hB1⟩; have HB1 := Lib.hid hB1; clear hB1 hD)
      | (go_at_call 9; (with_reducible refine Calls.mono (HRT.out _) ?_); rintro e w2 ⟨D, rfl, hD, hB2⟩; have HB2 := Lib.hid (bel HB1.out hB2); clear hB2 hD))
    go_ret2
    exact ⟨rfl, HB2.out⟩
  subst h2
  rw [if_neg (fun h => h rfl)] at hc'
  have HWR := Lib.hid (fun W D (hD : Slots W W.heap.size D (mergeL l m)) => rwrite_any D (mergeL l m) W hD hsz)
  have hol : (mergeL l m).length ≤ 200000 := by have := mergeL_len l m; omega
  obtain ⟨R, hR⟩ : ∃ o, o = mergeL l m := ⟨_, rfl⟩
  rw [← hR] at HWR hc' hr' hol hdoc
  have HDOC := Lib.hid hdoc
  have HC := Lib.hid hc'
  have HR := Lib.hid hr'
  have hlm : l.length + m.length ≤ 200000 := by omega
  have HLM := Lib.hid hlm
  clear hsz hR hls hlt hdoc hc' hr' hlm
  go_enter Try.func16, Try.ntmps16
  go_wp2_with (first
    | (go_at_call 9; (with_reducible refine Calls.mono (HRS.out _) ?_); rintro e w1 ⟨D1, rfl, hD, hB1⟩; have HD1 := Lib.hid hD; have HB1 := Lib.hid hB1; clear hB1 hD)
    | (go_at_call 9; (with_reducible refine Calls.mono (HRT.out _) ?_); rintro e w2 ⟨D2, rfl, hD, hB2⟩; have HD2 := Lib.hid hD; have HE1 := Lib.hid (HD1.out.on hB2); have HB2 := Lib.hid (bel HB1.out hB2); clear hB2 hD))
  go_loopw [6, 8, 9] (fun v0 v1 out wr => ∃ (a b o : List Slt), Hid (Slots w2 w2.heap.size v0 a) ∧ Hid (Slots w2 w2.heap.size v1 b) ∧ Hid (OwnS wr w2.heap.size out o) ∧ Hid (o ++ docL a b = R) ∧ Hid (o.length + (a.length + b.length) ≤ 200000) ∧ Hid (Below w2.heap.size w2 wr)) (fun v0 v1 _ _ => lenV v0 + lenV v1)
  case atStart => exact ⟨l, m, [], HE1, HD2, Lib.hid (World.ownsRow_nil _ _ _ _), HDOC, Lib.hid (by have := HLM.out; simp; omega), Lib.hid (Below.refl _ _)⟩
  case round =>
    obtain ⟨a, b, o, hA, hB, hO, hM, hL, hW⟩ := hrel
    obtain ⟨A, ca, rfl, hca, hcam, hRA⟩ := hA.out
    obtain ⟨B, cb, rfl, hcb, hcbm, hRB⟩ := hB.out
    have hL0 := hL.out
    cases a with
    | nil =>
      cases b with
      | nil =>
        obtain ⟨Ao, co, rfl⟩ := own_shape hO.out
        have HOE : Hid (o = R) := Lib.hid (by have h := hM.out; rw [docL_nil, List.append_nil] at h; exact h)
        have HOS : Hid (Slots wr wr.heap.size (.slice Ao o.length co) R) := Lib.hid (by rw [← HOE.out]; exact slots_of_own hO.out)
        have hoR : o.length ≤ 200000 := by have := hL.out; simp at this; omega
        simp only [List.length_nil]
        clear hRA hRB hL0 hca hcb
        by_cases h4 : 4096 < o.length
        · have hq : (4096 : Int) < (o.length : Int) := by omega
          have HQ : Hid (c = 9) := Lib.hid (by rw [HC.out, if_pos (by rw [← HOE.out]; exact h4)])
          have HQ2 : Hid (r = ⟨#[]⟩) := Lib.hid (by rw [HR.out, if_neg (by rw [HQ.out]; decide)])
          clear h4
          go_wp2_with fail
          go_ret2
          exact ⟨by rw [HQ.out, HQ2.out]; rfl, bel HB2.out hW.out⟩
        · have hq : ((4096 : Int) < (o.length : Int)) = False := by simp; omega
          have HQ : Hid (c = 0) := Lib.hid (by rw [HC.out, if_neg (by rw [← HOE.out]; exact h4)])
          have HQ2 : Hid (writeB R = r) := Lib.hid (by rw [HR.out, if_pos HQ.out])
          rw [HQ2.out] at HWR
          clear h4
          go_wp2_with (go_at_call 11; refine Calls.mono (HWR.out _ _ HOS.out) ?_; rintro e w4 ⟨rfl, hB4⟩; have HB4 := Lib.hid (bel (bel HB2.out hW.out) hB4); clear hB4)
          go_ret2
          exact ⟨by rw [HQ.out]; rfl, HB4.out⟩
      | cons y b =>
        obtain ⟨nb, hnb⟩ : ∃ n, n = (y :: b).length := ⟨_, rfl⟩
        have HTB := Lib.hid (slots_tail hnb hcb hcbm hRB)
        obtain ⟨bb, ob, rfl, hbb, b0', b1', b2'⟩ := slots_head hRB
        have hnb1 : 1 ≤ nb := by rw [hnb, List.length_cons]; omega
        have hnbm : nb ≤ 200000 := by rw [hnb]; simp at hL0 ⊢; omega
        have hnbc : nb ≤ cb := by rw [hnb]; exact hcb
        simp only [List.length_nil]
        rw [← hnb]
        have f0 := (hW.out.cell (p := ⟨bb, ob, none⟩) hbb).trans b0'
        have f1 := (hW.out.cell (p := ⟨bb, ob + 1, none⟩) hbb).trans b1'
        have f2 := (hW.out.cell (p := ⟨bb, ob + 2, none⟩) hbb).trans b2'
        have ib : (1 : Int) ≤ (nb : Int) := by omega
        have ib0 : (0 : Int) < (nb : Int) := by omega
        have ib1 : ((nb : Int) == 0) = false := by simp; omega
        have ib2 : decide ((0 : Int) < (nb : Int)) = true := decide_eq_true ib0
        have ib3 : decide (0 < nb) = true := decide_eq_true hnb1
        have HM3 : Hid ((o ++ [y]) ++ docL [] b = R) := Lib.hid (by rw [← hM.out, docL_nil', docL_nil', List.append_assoc]; rfl)
        clear hnb hRA hRB b0' b1' b2' hL0 hca hcb
        go_wp2_with fail
        go_quiet (fail)
        go_wp2_with (at_builtin
                     refine wpList_append_own _ rfl _ _ 22 rfl w2.heap.size 34 i0 (.agg #[.string ⟨#[]⟩, .int .i64 0, .int .i64 0]) 3 32 Try.underlying22 hi hz0 hz1 hz2 rfl (by decide) _ _ _ rfl (own_drewN (World.ownsRow.alloc hO.out _) _) ⟨wr.heap.size, 0, none⟩ 1 1 y.cells rfl rfl ?c1 ?c2 ?c3 ?c4 ?c5 ?_
                     case c1 => exact fun j u hj => alloc_cells wr _ _ hj
                     case c2 => exact cells_one _
                     case c3 => have := hL.out; unfold maxLen; omega
                     case c4 => have := hL.out; omega
                     case c5 => have := hW.out.size; simp; omega
                     intro D3 w3 hown3 hgrow3 _
                     have HO3 : Hid (OwnS w3 w2.heap.size D3 (o ++ [y])) := Lib.hid (by
                       unfold OwnS
                       rw [cellsL_snoc, List.length_append]
                       exact hown3)
                     have HG := Lib.hid ((below_drewN (hW.out.alloc hW.out.size _) _).grown hgrow3 (by have := hW.out.size; simp; omega) (fun q hq => (hO.out.lt q hq).1))
                     clear hown3 hgrow3)
        go_roundw
        case rel => exact ⟨[], b, o ++ [y], hA, HTB, HO3, HM3, Lib.hid (by have := hL.out; simp only [List.length_append, List.length_cons, List.length_nil] at *; omega), HG⟩
        case measure => simp [lenV]; omega
    | cons x a =>
      obtain ⟨na, hna⟩ : ∃ n, n = (x :: a).length := ⟨_, rfl⟩
      have HTA := Lib.hid (slots_tail hna hca hcam hRA)
      obtain ⟨ba, oa, rfl, hba, a0', a1', a2'⟩ := slots_head hRA
      have hna1 : 1 ≤ na := by rw [hna, List.length_cons]; omega
      have hnam : na ≤ 200000 := by rw [hna]; omega
      have hnac : na ≤ ca := by rw [hna]; exact hca
      rw [← hna]
      have HNA := Lib.hid hna
      have g0 := (hW.out.cell (p := ⟨ba, oa, none⟩) hba).trans a0'
      have g1 := (hW.out.cell (p := ⟨ba, oa + 1, none⟩) hba).trans a1'
      have g2 := (hW.out.cell (p := ⟨ba, oa + 2, none⟩) hba).trans a2'
      have ia : (1 : Int) ≤ (na : Int) := by omega
      have ia0 : (0 : Int) < (na : Int) := by omega
      have ia2 : decide ((0 : Int) < (na : Int)) = true := decide_eq_true ia0
      have ia3 : decide (0 < na) = true := decide_eq_true hna1
      clear hna hRA a0' a1' a2' hca
      cases b with
      | nil =>
        simp only [List.length_nil]
        have HM3 : Hid ((o ++ [x]) ++ docL a [] = R) := Lib.hid (by rw [← hM.out, docL_nil, docL_nil, List.append_assoc]; rfl)
        clear hRB hL0 hcb
        go_wp2_with fail
        go_quiet (fail)
        go_wp2_with fail
        go_quiet (fail)
        go_wp2_with (at_builtin
                     refine wpList_append_own _ rfl _ _ 22 rfl w2.heap.size 34 i0 (.agg #[.string ⟨#[]⟩, .int .i64 0, .int .i64 0]) 3 32 Try.underlying22 hi hz0 hz1 hz2 rfl (by decide) _ _ _ rfl (own_drewN (World.ownsRow.alloc hO.out _) _) ⟨wr.heap.size, 0, none⟩ 1 1 x.cells rfl rfl ?c1 ?c2 ?c3 ?c4 ?c5 ?_
                     case c1 => exact fun j u hj => alloc_cells wr _ _ hj
                     case c2 => exact cells_one _
                     case c3 => have := hL.out; unfold maxLen; omega
                     case c4 => have := hL.out; omega
                     case c5 => have := hW.out.size; simp; omega
                     intro D3 w3 hown3 hgrow3 _
                     have HO3 : Hid (OwnS w3 w2.heap.size D3 (o ++ [x])) := Lib.hid (by
                       unfold OwnS
                       rw [cellsL_snoc, List.length_append]
                       exact hown3)
                     have HG := Lib.hid ((below_drewN (hW.out.alloc hW.out.size _) _).grown hgrow3 (by have := hW.out.size; simp; omega) (fun q hq => (hO.out.lt q hq).1))
                     clear hown3 hgrow3)
        go_roundw
        case rel => exact ⟨a, [], o ++ [x], HTA, hB, HO3, HM3, Lib.hid (by have := hL.out; simp only [List.length_append, List.length_cons, List.length_nil] at *; omega), HG⟩
        case measure => simp [lenV]; omega
      | cons y b =>
        obtain ⟨nb, hnb⟩ : ∃ n, n = (y :: b).length := ⟨_, rfl⟩
        have HTB := Lib.hid (slots_tail hnb hcb hcbm hRB)
        obtain ⟨bb, ob, rfl, hbb, b0', b1', b2'⟩ := slots_head hRB
        have hnb1 : 1 ≤ nb := by rw [hnb, List.length_cons]; omega
        have hnbm : nb ≤ 200000 := by rw [hnb]; omega
        have hnbc : nb ≤ cb := by rw [hnb]; exact hcb
        rw [← hnb]
        have HNB := Lib.hid hnb
        have f0 := (hW.out.cell (p := ⟨bb, ob, none⟩) hbb).trans b0'
        have f1 := (hW.out.cell (p := ⟨bb, ob + 1, none⟩) hbb).trans b1'
        have f2 := (hW.out.cell (p := ⟨bb, ob + 2, none⟩) hbb).trans b2'
        have ib : (1 : Int) ≤ (nb : Int) := by omega
        have ib0 : (0 : Int) < (nb : Int) := by omega
        have ib1 : ((nb : Int) == 0) = false := by simp; omega
        have ib2 : decide ((0 : Int) < (nb : Int)) = true := decide_eq_true ib0
        have ib3 : decide (0 < nb) = true := decide_eq_true hnb1
        clear hnb hRB b0' b1' b2' hL0 hcb
        cases hyx : ltB y.k x.k with
        | true =>
          have hxl : Op.bytesLess x.k.toList y.k.toList = false := ltB_asymm hyx
          have hxe : (x.k.toList == y.k.toList) = false := by rw [beq_list, decide_eq_false (fun e => ltB_ne hyx e.symm)]
          have HM3 : Hid ((o ++ [y]) ++ docL (x :: a) b = R) := Lib.hid (by rw [← hM.out, docL_y hyx, List.append_assoc]; rfl)
          clear hyx
          go_wp2_with fail
          go_quiet (fail)
          go_wp2_with (at_builtin
                       refine wpList_append_own _ rfl _ _ 22 rfl w2.heap.size 34 i0 (.agg #[.string ⟨#[]⟩, .int .i64 0, .int .i64 0]) 3 32 Try.underlying22 hi hz0 hz1 hz2 rfl (by decide) _ _ _ rfl (own_drewN (World.ownsRow.alloc hO.out _) _) ⟨wr.heap.size, 0, none⟩ 1 1 y.cells rfl rfl ?c1 ?c2 ?c3 ?c4 ?c5 ?_
                       case c1 => exact fun j u hj => alloc_cells wr _ _ hj
                       case c2 => exact cells_one _
                       case c3 => have := hL.out; unfold maxLen; omega
                       case c4 => have := hL.out; omega
                       case c5 => have := hW.out.size; simp; omega
                       intro D3 w3 hown3 hgrow3 _
                       have HO3 : Hid (OwnS w3 w2.heap.size D3 (o ++ [y])) := Lib.hid (by
                         unfold OwnS
                         rw [cellsL_snoc, List.length_append]
                         exact hown3)
                       have HG := Lib.hid ((below_drewN (hW.out.alloc hW.out.size _) _).grown hgrow3 (by have := hW.out.size; simp; omega) (fun q hq => (hO.out.lt q hq).1))
                       clear hown3 hgrow3)
          go_roundw
          case rel => exact ⟨x :: a, b, o ++ [y], Lib.hid (by rw [HNA.out]; exact hA.out), HTB, HO3, HM3, Lib.hid (by have := hL.out; simp only [List.length_append, List.length_cons, List.length_nil] at *; omega), HG⟩
          case measure => simp [lenV]; omega
        | false =>
          by_cases he : y.k = x.k
          · have hxl : Op.bytesLess x.k.toList y.k.toList = false := by rw [he]; exact ltB_irrefl _
            have hxe : (x.k.toList == y.k.toList) = true := by rw [beq_list, decide_eq_true he.symm]
            have hye : (y.k.toList == x.k.toList) = true := by rw [beq_list, decide_eq_true he]
            have HM3 : Hid ((o ++ [x]) ++ docL a b = R) := Lib.hid (by rw [← hM.out, docL_e he, List.append_assoc]; rfl)
            clear he hyx
            go_wp2_with fail
            go_quiet (fail)
            go_wp2_with fail
            go_quiet (fail)
            go_wp2_with (at_builtin
                         refine wpList_append_own _ rfl _ _ 22 rfl w2.heap.size 34 i0 (.agg #[.string ⟨#[]⟩, .int .i64 0, .int .i64 0]) 3 32 Try.underlying22 hi hz0 hz1 hz2 rfl (by decide) _ _ _ rfl (own_drewN (World.ownsRow.alloc hO.out _) _) ⟨wr.heap.size, 0, none⟩ 1 1 x.cells rfl rfl ?c1 ?c2 ?c3 ?c4 ?c5 ?_
                         case c1 => exact fun j u hj => alloc_cells wr _ _ hj
                         case c2 => exact cells_one _
                         case c3 => have := hL.out; unfold maxLen; omega
                         case c4 => have := hL.out; omega
                         case c5 => have := hW.out.size; simp; omega
                         intro D3 w3 hown3 hgrow3 _
                         have HO3 : Hid (OwnS w3 w2.heap.size D3 (o ++ [x])) := Lib.hid (by
                           unfold OwnS
                           rw [cellsL_snoc, List.length_append]
                           exact hown3)
                         have HG := Lib.hid ((below_drewN (hW.out.alloc hW.out.size _) _).grown hgrow3 (by have := hW.out.size; simp; omega) (fun q hq => (hO.out.lt q hq).1))
                         clear hown3 hgrow3)
            go_roundw
            case rel => exact ⟨a, b, o ++ [x], HTA, HTB, HO3, HM3, Lib.hid (by have := hL.out; simp only [List.length_append, List.length_cons, List.length_nil] at *; omega), HG⟩
            case measure => simp [lenV]; omega
          · have hxl : Op.bytesLess x.k.toList y.k.toList = true := by
              cases h4 : Op.bytesLess x.k.toList y.k.toList with
              | true => rfl
              | false => exact absurd (ltB_tri hyx h4) he
            have hye : (y.k.toList == x.k.toList) = false := by rw [beq_list, decide_eq_false he]
            have hxe : (x.k.toList == y.k.toList) = false := by rw [beq_list, decide_eq_false (fun e => he e.symm)]
            have HM3 : Hid ((o ++ [x]) ++ docL a (y :: b) = R) := Lib.hid (by rw [← hM.out, docL_x hyx he, List.append_assoc]; rfl)
            clear he hyx
            go_wp2_with fail
            go_quiet (fail)
            go_wp2_with fail
            go_quiet (fail)
            go_wp2_with (at_builtin
                         refine wpList_append_own _ rfl _ _ 22 rfl w2.heap.size 34 i0 (.agg #[.string ⟨#[]⟩, .int .i64 0, .int .i64 0]) 3 32 Try.underlying22 hi hz0 hz1 hz2 rfl (by decide) _ _ _ rfl (own_drewN (World.ownsRow.alloc hO.out _) _) ⟨wr.heap.size, 0, none⟩ 1 1 x.cells rfl rfl ?c1 ?c2 ?c3 ?c4 ?c5 ?_
                         case c1 => exact fun j u hj => alloc_cells wr _ _ hj
                         case c2 => exact cells_one _
                         case c3 => have := hL.out; unfold maxLen; omega
                         case c4 => have := hL.out; omega
                         case c5 => have := hW.out.size; simp; omega
                         intro D3 w3 hown3 hgrow3 _
                         have HO3 : Hid (OwnS w3 w2.heap.size D3 (o ++ [x])) := Lib.hid (by
                           unfold OwnS
                           rw [cellsL_snoc, List.length_append]
                           exact hown3)
                         have HG := Lib.hid ((below_drewN (hW.out.alloc hW.out.size _) _).grown hgrow3 (by have := hW.out.size; simp; omega) (fun q hq => (hO.out.lt q hq).1))
                         clear hown3 hgrow3)
            go_roundw
            case rel => exact ⟨a, y :: b, o ++ [x], HTA, Lib.hid (by rw [HNB.out]; exact hB.out), HO3, HM3, Lib.hid (by have := hL.out; simp only [List.length_append, List.length_cons, List.length_nil] at *; omega), HG⟩
            case measure => simp [lenV]; omega

end Go.Proofs.Ytjjenpklcbpkmaa
