/-
  The slot of a key, looked for in an index's bytes.
-/
import Derived.Test.YtjjenpklcbpkmaaIFst
namespace Go.Proofs.Ytjjenpklcbpkmaa
open Go.RowKit Go.Proofs.Mem
set_option linter.unusedVariables false

theorem find_some {l : List Slt} {key : ByteArray} {x : Slt} (h : findL l key = some x) : x ∈ l ∧ x.k = key := by
  unfold findL at h
  refine ⟨List.mem_of_find?_eq_some h, ?_⟩
  have := List.find?_some h
  exact of_decide_eq_true this
theorem find_none {l : List Slt} {key : ByteArray} (h : ∀ x ∈ l, x.k ≠ key) : findL l key = none := by
  unfold findL
  rw [List.find?_eq_none]
  intro x hx hk
  exact h x hx (of_decide_eq_true hk)
theorem find_first {l : List Slt} (h : Rises l) {key : ByteArray} {x : Slt} (hx : l[firstN l key]? = some x) : findL l key = if x.k = key then some x else none := by
  have only : ∀ y ∈ l, y.k = key → y = x ∧ x.k = key := by
    intro y hy hk
    obtain ⟨j, hj, rfl⟩ := List.getElem_of_mem hy
    have hjj : l[j]? = some l[j] := List.getElem?_eq_getElem hj
    have h1 : ¬ j < firstN l key := by
      rw [first_iff h key hjj, hk, ltB_irrefl]
      decide
    have h2 : ¬ firstN l key < j := by
      intro hlt
      have := h _ _ _ _ hlt hx hjj
      rw [hk, ← first_iff h key hx] at this
      omega
    have h3 : j = firstN l key := by omega
    have h4 : l[j]? = some x := by rw [h3]; exact hx
    rw [hjj] at h4
    have h5 := Option.some.inj h4
    exact ⟨h5, by rw [← h5]; exact hk⟩
  cases hf : findL l key with
  | some y =>
    obtain ⟨hm, hk⟩ := find_some hf
    obtain ⟨rfl, h4⟩ := only y hm hk
    rw [if_pos h4]
  | none =>
    by_cases hk : x.k = key
    · unfold findL at hf
      rw [List.find?_eq_none] at hf
      exact absurd (decide_eq_true hk) (hf x (List.mem_of_getElem? hx))
    · rw [if_neg hk]
theorem find_out {l : List Slt} (h : Rises l) {key : ByteArray} (hx : l[firstN l key]? = none) : findL l key = none := by
  refine find_none fun y hy hk => ?_
  obtain ⟨j, hj, rfl⟩ := List.getElem_of_mem hy
  have h1 : ¬ j < firstN l key := by
    rw [first_iff h key (List.getElem?_eq_getElem hj), hk, ltB_irrefl]
    decide
  have := List.getElem?_eq_none_iff.1 hx
  omega

set_option maxRecDepth 100000 in
set_option maxHeartbeats 2000000 in
theorem ifind_any (s key : ByteArray) (w : World) (hs : s.size ≤ 1000000) (hk : key.size ≤ 1000000) :
    Calls Try.prog 13 #[.string s, .string key] w fun e w' => e = .returned (findV (findL (readL s) key)) ∧ Below w.heap.size w w' := by
  have HCK := Lib.hid (fun W => check_any s W hs)
  have HB0 : Hid (Below w.heap.size w (w.alloc (.cells #[.string ⟨#[]⟩, .int .i64 0, .int .i64 0] 34))) := Lib.hid ((Below.refl _ _).alloc (Nat.le_refl _) _)
  have HX0 : Hid (BoxS (w.alloc (.cells #[.string ⟨#[]⟩, .int .i64 0, .int .i64 0] 34)) w.heap.size noSlt) := Lib.hid (heap_alloc_new w _)
  obtain ⟨r, hr⟩ : ∃ r, r = findL (readL s) key := ⟨_, rfl⟩
  rw [← hr]
  obtain ⟨c, hc⟩ : ∃ c, c = codeOf s := ⟨_, rfl⟩
  rw [← hc] at HCK
  by_cases h0 : c = 0
  case neg =>
    have HR : Hid (r = none) := Lib.hid (by rw [hr]; unfold readL; rw [if_neg (fun e => h0 (hc.trans e))]; rfl)
    have hq : ((c : Int) != 0) = true := by simp; omega
    clear hr hc h0 hs hk
    go_enter Try.func13, Try.ntmps13
    go_wp2_with (go_at_call 23; refine Calls.mono (HCK.out _) ?_; rintro e w1 ⟨rfl, hB1⟩; have HB1 := Lib.hid (bel HB0.out hB1); have HX1 := Lib.hid (HX0.out.on HX0.out.lt hB1); obtain ⟨g0, g1, g2⟩ := HX1.out.cells; have f0 := Lib.frozen_of_heap HX1.out 0; have f1 := Lib.frozen_of_heap HX1.out 1; have f2 := Lib.frozen_of_heap HX1.out 2; clear hB1)
    have hh : BoxS (((w1.setCell ⟨w.heap.size, 0, none⟩ (.string ⟨#[]⟩)).setCell ⟨w.heap.size, 1, none⟩ (.int .i64 0)).setCell ⟨w.heap.size, 2, none⟩ (.int .i64 0)) w.heap.size noSlt := HX1.out.put noSlt
    have hbl : Below w.heap.size w (((w1.setCell ⟨w.heap.size, 0, none⟩ (.string ⟨#[]⟩)).setCell ⟨w.heap.size, 1, none⟩ (.int .i64 0)).setCell ⟨w.heap.size, 2, none⟩ (.int .i64 0)) := below_put HB1.out (Nat.le_refl _) noSlt
    generalize ((w1.setCell ⟨w.heap.size, 0, none⟩ (.string ⟨#[]⟩)).setCell ⟨w.heap.size, 1, none⟩ (.int .i64 0)).setCell ⟨w.heap.size, 2, none⟩ (.int .i64 0) = W3 at *
    obtain ⟨c0, c1, c2⟩ := hh.cells
    refine bodyPost_ret (v := .tuple #[noSlt.val, .bool false]) (by simp [results, Try.results13, go_sem, c0, c1, c2, Slt.val]) rfl ⟨?_, hbl⟩
    rw [HR.out]
    rfl
  subst h0
  obtain ⟨hf, hw⟩ := code_zero hc.symm
  have hge := code_ge hc.symm
  have h32 : ∀ x ∈ slotsOf s, x.k.size = 32 := fun x hx => (fit_at hf hx).1
  have hrl : readL s = slotsOf s := by unfold readL; rw [if_pos hc.symm]
  rw [hrl] at hr
  by_cases h32k : key.size = 32
  case neg =>
    have HR : Hid (r = none) := Lib.hid (by rw [hr]; exact find_none (fun x hx e => h32k (by rw [← e]; exact h32 x hx)))
    have hq : ((key.size : Int) != 32) = true := by simp; omega
    clear hr hc hf hw hge h32 hrl hs h32k
    go_enter Try.func13, Try.ntmps13
    go_wp2_with (go_at_call 23; refine Calls.mono (HCK.out _) ?_; rintro e w1 ⟨rfl, hB1⟩; have HB1 := Lib.hid (bel HB0.out hB1); have HX1 := Lib.hid (HX0.out.on HX0.out.lt hB1); obtain ⟨g0, g1, g2⟩ := HX1.out.cells; have f0 := Lib.frozen_of_heap HX1.out 0; have f1 := Lib.frozen_of_heap HX1.out 1; have f2 := Lib.frozen_of_heap HX1.out 2; clear hB1)
    have hh : BoxS (((w1.setCell ⟨w.heap.size, 0, none⟩ (.string ⟨#[]⟩)).setCell ⟨w.heap.size, 1, none⟩ (.int .i64 0)).setCell ⟨w.heap.size, 2, none⟩ (.int .i64 0)) w.heap.size noSlt := HX1.out.put noSlt
    have hbl : Below w.heap.size w (((w1.setCell ⟨w.heap.size, 0, none⟩ (.string ⟨#[]⟩)).setCell ⟨w.heap.size, 1, none⟩ (.int .i64 0)).setCell ⟨w.heap.size, 2, none⟩ (.int .i64 0)) := below_put HB1.out (Nat.le_refl _) noSlt
    generalize ((w1.setCell ⟨w.heap.size, 0, none⟩ (.string ⟨#[]⟩)).setCell ⟨w.heap.size, 1, none⟩ (.int .i64 0)).setCell ⟨w.heap.size, 2, none⟩ (.int .i64 0) = W3 at *
    obtain ⟨c0, c1, c2⟩ := hh.cells
    refine bodyPost_ret (v := .tuple #[noSlt.val, .bool false]) (by simp [results, Try.results13, go_sem, c0, c1, c2, Slt.val]) rfl ⟨?_, hbl⟩
    rw [HR.out]
    rfl
  have hq : ((key.size : Int) != 32) = false := by simp; omega
  have HFS := Lib.hid (fun W => first_any s key W hs hk hc.symm)
  have HSZ := Lib.hid (fun W => vsize_any s W hge (by omega))
  have hcl : countV s ≤ 100000 := by unfold countV; omega
  have hrise := fit_rises hf
  obtain ⟨F, hF⟩ : ∃ F, F = firstN (slotsOf s) key := ⟨_, rfl⟩
  rw [← hF] at HFS
  have hFl : F ≤ 100000 := by
    have : firstN (slotsOf s) key ≤ (slotsOf s).length := List.countP_le_length
    have hlen : (slotsOf s).length = countV s := slotsN_len _ _
    omega
  by_cases hFn : F < countV s
  case neg =>
    have HR : Hid (r = none) := Lib.hid (by
      rw [hr]
      refine find_out hrise ?_
      rw [← hF]
      exact List.getElem?_eq_none (by show (slotsN s (countV s)).length ≤ F; rw [slotsN_len]; omega))
    have hq2 : ((F : Int) < (countV s : Int)) = False := by simp; omega
    generalize countV s = n at *
    clear hr hc hf hw hge h32 hrl hs h32k hk hrise hF hFn
    go_enter Try.func13, Try.ntmps13
    go_wp2_with (first
      | (go_at_call 23; refine Calls.mono (HCK.out _) ?_; rintro e w1 ⟨rfl, hB1⟩; have HB1 := Lib.hid (bel HB0.out hB1); have HX1 := Lib.hid (HX0.out.on HX0.out.lt hB1); clear hB1)
      | (go_at_call 37; refine Calls.mono (HFS.out _) ?_; rintro e w2 ⟨rfl, hB2⟩; have HB2 := Lib.hid (bel HB1.out hB2); have HX2 := Lib.hid (HX1.out.on HX1.out.lt hB2); obtain ⟨g0, g1, g2⟩ := HX2.out.cells; have f0 := Lib.frozen_of_heap HX2.out 0; have f1 := Lib.frozen_of_heap HX2.out 1; have f2 := Lib.frozen_of_heap HX2.out 2; clear hB2)
      | (go_at_call 38; refine Calls.mono (HSZ.out _) ?_; rintro e w3 ⟨rfl, rfl⟩))
    have hh : BoxS (((w3.setCell ⟨w.heap.size, 0, none⟩ (.string ⟨#[]⟩)).setCell ⟨w.heap.size, 1, none⟩ (.int .i64 0)).setCell ⟨w.heap.size, 2, none⟩ (.int .i64 0)) w.heap.size noSlt := HX2.out.put noSlt
    have hbl : Below w.heap.size w (((w3.setCell ⟨w.heap.size, 0, none⟩ (.string ⟨#[]⟩)).setCell ⟨w.heap.size, 1, none⟩ (.int .i64 0)).setCell ⟨w.heap.size, 2, none⟩ (.int .i64 0)) := below_put HB2.out (Nat.le_refl _) noSlt
    generalize ((w3.setCell ⟨w.heap.size, 0, none⟩ (.string ⟨#[]⟩)).setCell ⟨w.heap.size, 1, none⟩ (.int .i64 0)).setCell ⟨w.heap.size, 2, none⟩ (.int .i64 0) = W3 at *
    obtain ⟨c0, c1, c2⟩ := hh.cells
    refine bodyPost_ret (v := .tuple #[noSlt.val, .bool false]) (by simp [results, Try.results13, go_sem, c0, c1, c2, Slt.val]) rfl ⟨?_, hbl⟩
    rw [HR.out]
    rfl
  have hat := count_at hge hFn
  have hsl : (slotsOf s)[F]? = some (slotAt s (1028 + F * 40)) := slots_get hFn
  have hff := find_first hrise (key := key) (x := slotAt s (1028 + F * 40)) (by rw [← hF]; exact hsl)
  have HVK := Lib.hid (fun W => vkey_any s F W (by omega) hs)
  have HVS := Lib.hid (fun W => vslot_any s F W (by omega) hs)
  have hq2 : ((F : Int) < (countV s : Int)) := by omega
  have hff2 : r = if s.extract (1028 + F * 40) (1028 + F * 40 + 32) = key then some (slotAt s (1028 + F * 40)) else none := by rw [hr]; exact hff
  have hsv : slotAt s (1028 + F * 40) = ⟨s.extract (1028 + F * 40) (1028 + F * 40 + 32), numAt s (1028 + F * 40 + 32), numAt s (1028 + F * 40 + 36)⟩ := rfl
  rw [hsv] at hff2
  generalize s.extract (1028 + F * 40) (1028 + F * 40 + 32) = kk at *
  generalize numAt s (1028 + F * 40 + 32) = n1 at *
  generalize numAt s (1028 + F * 40 + 36) = n2 at *
  generalize countV s = n at *
  by_cases hkk : kk = key
  case neg =>
    have HR : Hid (r = none) := Lib.hid (by rw [hff2, if_neg hkk])
    have hq3 : (kk.toList == key.toList) = false := by rw [beq_list, decide_eq_false hkk]
    clear hff2 hff hr hc hf hw hge h32 hrl hs h32k hk hrise hF hFn hsl hkk hsv hat
    go_enter Try.func13, Try.ntmps13
    go_wp2_with (first
      | (go_at_call 23; refine Calls.mono (HCK.out _) ?_; rintro e w1 ⟨rfl, hB1⟩; have HB1 := Lib.hid (bel HB0.out hB1); have HX1 := Lib.hid (HX0.out.on HX0.out.lt hB1); clear hB1)
      | (go_at_call 37; refine Calls.mono (HFS.out _) ?_; rintro e w2 ⟨rfl, hB2⟩; have HB2 := Lib.hid (bel HB1.out hB2); have HX2 := Lib.hid (HX1.out.on HX1.out.lt hB2); obtain ⟨g0, g1, g2⟩ := HX2.out.cells; have f0 := Lib.frozen_of_heap HX2.out 0; have f1 := Lib.frozen_of_heap HX2.out 1; have f2 := Lib.frozen_of_heap HX2.out 2; clear hB2)
      | (go_at_call 38; refine Calls.mono (HSZ.out _) ?_; rintro e w3 ⟨rfl, rfl⟩)
      | (go_at_call 39; refine Calls.mono (HVK.out _) ?_; rintro e w4 ⟨rfl, rfl⟩))
    have hh : BoxS (((w4.setCell ⟨w.heap.size, 0, none⟩ (.string ⟨#[]⟩)).setCell ⟨w.heap.size, 1, none⟩ (.int .i64 0)).setCell ⟨w.heap.size, 2, none⟩ (.int .i64 0)) w.heap.size noSlt := HX2.out.put noSlt
    have hbl : Below w.heap.size w (((w4.setCell ⟨w.heap.size, 0, none⟩ (.string ⟨#[]⟩)).setCell ⟨w.heap.size, 1, none⟩ (.int .i64 0)).setCell ⟨w.heap.size, 2, none⟩ (.int .i64 0)) := below_put HB2.out (Nat.le_refl _) noSlt
    generalize ((w4.setCell ⟨w.heap.size, 0, none⟩ (.string ⟨#[]⟩)).setCell ⟨w.heap.size, 1, none⟩ (.int .i64 0)).setCell ⟨w.heap.size, 2, none⟩ (.int .i64 0) = W3 at *
    obtain ⟨c0, c1, c2⟩ := hh.cells
    refine bodyPost_ret (v := .tuple #[noSlt.val, .bool false]) (by simp [results, Try.results13, go_sem, c0, c1, c2, Slt.val]) rfl ⟨?_, hbl⟩
    rw [HR.out]
    rfl
  have HR : Hid (r = some ⟨kk, n1, n2⟩) := Lib.hid (by rw [hff2, if_pos hkk])
  have hq3 : (kk.toList == key.toList) = true := by rw [beq_list, decide_eq_true hkk]
  clear hff2 hff hr hc hf hw hge h32 hrl hs h32k hk hrise hF hFn hsl hkk hsv hat
  go_enter Try.func13, Try.ntmps13
  go_wp2_with (first
    | (go_at_call 23; refine Calls.mono (HCK.out _) ?_; rintro e w1 ⟨rfl, hB1⟩; have HB1 := Lib.hid (bel HB0.out hB1); have HX1 := Lib.hid (HX0.out.on HX0.out.lt hB1); clear hB1)
    | (go_at_call 37; refine Calls.mono (HFS.out _) ?_; rintro e w2 ⟨rfl, hB2⟩; have HB2 := Lib.hid (bel HB1.out hB2); have HX2 := Lib.hid (HX1.out.on HX1.out.lt hB2); obtain ⟨g0, g1, g2⟩ := HX2.out.cells; have f0 := Lib.frozen_of_heap HX2.out 0; have f1 := Lib.frozen_of_heap HX2.out 1; have f2 := Lib.frozen_of_heap HX2.out 2; clear hB2)
    | (go_at_call 38; refine Calls.mono (HSZ.out _) ?_; rintro e w3 ⟨rfl, rfl⟩)
    | (go_at_call 39; refine Calls.mono (HVK.out _) ?_; rintro e w4 ⟨rfl, rfl⟩)
    | (go_at_call 40; refine Calls.mono (HVS.out _) ?_; rintro e w5 ⟨rfl, hB5⟩; have HB5 := Lib.hid (bel HB2.out hB5); have HX5 := Lib.hid (HX2.out.on HX2.out.lt hB5); clear g0 g1 g2 f0 f1 f2; obtain ⟨g0, g1, g2⟩ := HX5.out.cells; have f0 := Lib.frozen_of_heap HX5.out 0; have f1 := Lib.frozen_of_heap HX5.out 1; have f2 := Lib.frozen_of_heap HX5.out 2; clear hB5))
  have hh : BoxS (((w5.setCell ⟨w.heap.size, 0, none⟩ (.string kk)).setCell ⟨w.heap.size, 1, none⟩ (.int .i64 n1)).setCell ⟨w.heap.size, 2, none⟩ (.int .i64 n2)) w.heap.size ⟨kk, n1, n2⟩ := HX5.out.put ⟨kk, n1, n2⟩
  have hbl : Below w.heap.size w (((w5.setCell ⟨w.heap.size, 0, none⟩ (.string kk)).setCell ⟨w.heap.size, 1, none⟩ (.int .i64 n1)).setCell ⟨w.heap.size, 2, none⟩ (.int .i64 n2)) := below_put HB5.out (Nat.le_refl _) ⟨kk, n1, n2⟩
  generalize ((w5.setCell ⟨w.heap.size, 0, none⟩ (.string kk)).setCell ⟨w.heap.size, 1, none⟩ (.int .i64 n1)).setCell ⟨w.heap.size, 2, none⟩ (.int .i64 n2) = W3 at *
  obtain ⟨c0, c1, c2⟩ := hh.cells
  refine bodyPost_ret (v := .tuple #[(⟨kk, n1, n2⟩ : Slt).val, .bool true]) (by simp [results, Try.results13, go_sem, c0, c1, c2, Slt.val]) rfl ⟨?_, hbl⟩
  rw [HR.out]
  rfl

end Go.Proofs.Ytjjenpklcbpkmaa
