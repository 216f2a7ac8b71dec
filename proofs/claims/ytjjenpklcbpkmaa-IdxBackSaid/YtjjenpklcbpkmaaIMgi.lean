/-
  An index of two: the program's package.
-/
import Derived.Test.YtjjenpklcbpkmaaIMgd
namespace Go.Proofs.Ytjjenpklcbpkmaa
open Go.RowKit Go.Proofs.Mem
set_option linter.unusedVariables false

def mergeC (s t : ByteArray) : Nat := if codeOf s ≠ 0 then codeOf s else if codeOf t ≠ 0 then codeOf t else if 4096 < (mergeL (readL s) (readL t)).length then 9 else 0
def mergeB (s t : ByteArray) : ByteArray := if mergeC s t = 0 then writeB (mergeL (readL s) (readL t)) else ⟨#[]⟩
theorem merge_sized (s t : ByteArray) : ∀ x ∈ mergeL (readL s) (readL t), x.k.size ≤ 9223372036854775807 := by
  intro x hx
  rcases mergeL_mem _ _ x hx with h | h
  · rw [readL_32 x h]; decide
  · rw [readL_32 x h]; decide

set_option maxRecDepth 100000 in
set_option maxHeartbeats 2000000 in
theorem imerge_any (s t : ByteArray) (w : World) (hs : s.size ≤ 1000000) (ht : t.size ≤ 1000000) :
    Calls Try.prog 15 #[.string s, .string t] w fun e w' => e = .returned (.tuple #[.string (mergeB s t), .int .i64 (mergeC s t : Nat)]) ∧ Below w.heap.size w w' := by
  have HRS := Lib.hid (fun W => read_any s W hs)
  have HRT := Lib.hid (fun W => read_any t W ht)
  have hls := readL_len hs
  have hlt := readL_len ht
  have hsz := merge_sized s t
  obtain ⟨c, hc⟩ : ∃ c, c = mergeC s t := ⟨_, rfl⟩
  obtain ⟨r, hr⟩ : ∃ r, r = mergeB s t := ⟨_, rfl⟩
  have hr' := hr
  unfold mergeB at hr'
  have hc' := hc
  unfold mergeC at hc'
  rw [← hc] at hr' ⊢
  rw [← hr]
  obtain ⟨c1, hc1⟩ : ∃ c, c = codeOf s := ⟨_, rfl⟩
  obtain ⟨c2, hc2⟩ : ∃ c, c = codeOf t := ⟨_, rfl⟩
  obtain ⟨l, hl⟩ : ∃ l, l = readL s := ⟨_, rfl⟩
  obtain ⟨m, hm⟩ : ∃ l, l = readL t := ⟨_, rfl⟩
  rw [← hc1] at HRS hc'
  rw [← hc2] at HRT hc'
  rw [← hl] at HRS hls hsz hr' hc'
  rw [← hm] at HRT hlt hsz hr' hc'
  clear hc hr hc1 hc2 hl hm hs ht
  by_cases h1 : c1 = 0
  case neg =>
    rw [if_pos h1] at hc'
    subst hc'
    rw [if_neg h1] at hr'
    subst hr'
    have hq : ((c : Int) != 0) = true := by simp; omega
    clear h1
    go_enter Try.func15, Try.ntmps15
    go_wp2_with (go_at_call 8; refine Calls.mono (HRS.out _) ?_; rintro e w1 ⟨D, rfl, hD, hB1⟩; have HB1 := Lib.hid hB1; clear hB1 hD)
    go_ret2
    exact ⟨rfl, HB1.out⟩
  subst h1
  rw [if_neg (fun h => h rfl)] at hc'
  by_cases h2 : c2 = 0
  case neg =>
    rw [if_pos h2] at hc'
    subst hc'
    rw [if_neg h2] at hr'
    subst hr'
    have hq : ((c : Int) != 0) = true := by simp; omega
    clear h2
    go_enter Try.func15, Try.ntmps15
    go_wp2_with (first
      | (go_at_call 8; (with_reducible refine Calls.mono (HRS.out _) ?_); rintro e w1 ⟨D, rfl, hD, hB1⟩; have HB1 := Lib.hid hB1; clear hB1 hD)
      | (go_at_call 8; (with_reducible refine Calls.mono (HRT.out _) ?_); rintro e w2 ⟨D, rfl, hD, hB2⟩; have HB2 := Lib.hid (bel HB1.out hB2); clear hB2 hD))
    go_ret2
    exact ⟨rfl, HB2.out⟩
  subst h2
  rw [if_neg (fun h => h rfl)] at hc'
  have HMG := Lib.hid (fun W u v (hu : Slots W W.heap.size u l) (hv : Slots W W.heap.size v m) => merged_any u v l m W hu hv (by omega))
  have HWR := Lib.hid (fun W D (hD : Slots W W.heap.size D (mergeL l m)) => write_any D (mergeL l m) W hD hsz)
  have hol : (mergeL l m).length ≤ 200000 := by have := mergeL_len l m; omega
  obtain ⟨o, ho⟩ : ∃ o, o = mergeL l m := ⟨_, rfl⟩
  rw [← ho] at HMG HWR hc' hr' hol
  clear hsz ho hls hlt
  by_cases h4 : 4096 < o.length
  · rw [if_pos h4] at hc'
    subst hc'
    rw [if_neg (by decide)] at hr'
    subst hr'
    have hq : (4096 : Int) < (o.length : Int) := by omega
    clear h4
    go_enter Try.func15, Try.ntmps15
    go_wp2_with (first
      | (go_at_call 8; (with_reducible refine Calls.mono (HRS.out _) ?_); rintro e w1 ⟨D1, rfl, hD, hB1⟩; have HD1 := Lib.hid hD; have HB1 := Lib.hid hB1; clear hB1 hD)
      | (go_at_call 8; (with_reducible refine Calls.mono (HRT.out _) ?_); rintro e w2 ⟨D2, rfl, hD, hB2⟩; have HD2 := Lib.hid hD; have HE1 := Lib.hid (HD1.out.on hB2); have HB2 := Lib.hid (bel HB1.out hB2); clear hB2 hD)
      | (go_at_call 42; refine Calls.mono (HMG.out _ _ _ HE1.out HD2.out) ?_; rintro e w3 ⟨D3, rfl, hD, hB3⟩; have HD3 := Lib.hid hD; obtain ⟨A3, k3, rfl⟩ := own_shape hD; have HB3 := Lib.hid (bel HB2.out hB3); clear hB3 hD))
    go_ret2
    exact ⟨rfl, HB3.out⟩
  · rw [if_neg h4] at hc'
    subst hc'
    rw [if_pos rfl] at hr'
    rw [← hr'] at HWR
    have hq : ((4096 : Int) < (o.length : Int)) = False := by simp; omega
    clear h4 hr'
    go_enter Try.func15, Try.ntmps15
    go_wp2_with (first
      | (go_at_call 8; (with_reducible refine Calls.mono (HRS.out _) ?_); rintro e w1 ⟨D1, rfl, hD, hB1⟩; have HD1 := Lib.hid hD; have HB1 := Lib.hid hB1; clear hB1 hD)
      | (go_at_call 8; (with_reducible refine Calls.mono (HRT.out _) ?_); rintro e w2 ⟨D2, rfl, hD, hB2⟩; have HD2 := Lib.hid hD; have HE1 := Lib.hid (HD1.out.on hB2); have HB2 := Lib.hid (bel HB1.out hB2); clear hB2 hD)
      | (go_at_call 42; refine Calls.mono (HMG.out _ _ _ HE1.out HD2.out) ?_; rintro e w3 ⟨D3, rfl, hD, hB3⟩; have HD3 := Lib.hid (slots_of_own hD); obtain ⟨A3, k3, rfl⟩ := own_shape hD; have HB3 := Lib.hid (bel HB2.out hB3); clear hB3 hD)
      | (go_at_call 10; refine Calls.mono (HWR.out _ _ HD3.out) ?_; rintro e w4 ⟨rfl, hB4⟩; have HB4 := Lib.hid (bel HB3.out hB4); clear hB4))
    go_ret2
    exact ⟨rfl, HB4.out⟩

end Go.Proofs.Ytjjenpklcbpkmaa
