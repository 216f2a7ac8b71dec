/-
  How many digits tell a key from all others: both packages.
-/
import Derived.Test.YtjjenpklcbpkmaaIAlk
import Derived.Deep.QuietTactic
import Derived.BigQuiet
namespace Go.Proofs.Ytjjenpklcbpkmaa
open Go.RowKit Go.Proofs.Mem
set_option linter.unusedVariables false

def shortS (key : ByteArray) (n : Nat) (x : Slt) : Nat := if x.k = key then n else max n (alikeK x.k key + 1)
def shortN (l : List Slt) (key : ByteArray) : Nat := l.foldl (shortS key) 1
def shortV (s key : ByteArray) : Nat := if codeOf s = 0 ∧ key.size = 32 then shortN (readL s) key else 0
theorem shortS_le {key : ByteArray} {l : List Slt} {m n : Nat} : l.foldl (shortS key) m ≤ n ↔ m ≤ n ∧ ∀ x ∈ l, x.k = key ∨ ¬ n ≤ alikeK x.k key := by
  induction l generalizing m with
  | nil => simp
  | cons y l ih =>
    rw [List.foldl_cons, ih]
    unfold shortS
    constructor
    · rintro ⟨h1, h2⟩
      by_cases e : y.k = key
      · rw [if_pos e] at h1
        exact ⟨h1, fun x hx => by
          rcases List.mem_cons.1 hx with rfl | hx
          · exact .inl e
          · exact h2 x hx⟩
      · rw [if_neg e] at h1
        exact ⟨by omega, fun x hx => by
          rcases List.mem_cons.1 hx with rfl | hx
          · exact .inr (by omega)
          · exact h2 x hx⟩
    · rintro ⟨h1, h2⟩
      refine ⟨?_, fun x hx => h2 x (List.mem_cons_of_mem _ hx)⟩
      split
      · exact h1
      · rename_i e
        have := (h2 y List.mem_cons_self).resolve_left e
        omega
theorem short_le {l : List Slt} {key : ByteArray} {n : Nat} (h : 1 ≤ n) : shortN l key ≤ n ↔ ∀ x ∈ l, x.k = key ∨ ¬ n ≤ alikeK x.k key := by
  unfold shortN
  rw [shortS_le]
  exact ⟨fun ⟨_, h2⟩ => h2, fun h2 => ⟨h, h2⟩⟩
theorem short_pos (l : List Slt) (key : ByteArray) : 1 ≤ shortN l key := by
  have := (shortS_le (key := key) (l := l) (m := 1) (n := shortN l key)).1 (Nat.le_refl _)
  exact this.1
theorem short_64 {l : List Slt} {key : ByteArray} (h32 : ∀ x ∈ l, x.k.size = 32) (hk : key.size = 32) : shortN l key ≤ 64 := by
  rw [short_le (by decide)]
  intro x hx
  by_cases e : x.k = key
  · exact .inl e
  · have := alikeK_ne (h32 x hx) hk e
    exact .inr (by omega)
theorem short_snoc {l : List Slt} {key : ByteArray} {k : Nat} {x : Slt} (hx : l[k]? = some x) : shortN (l.take (k + 1)) key = shortS key (shortN (l.take k) key) x := by
  unfold shortN
  rw [List.take_add_one, hx, List.foldl_append]
  rfl

set_option maxRecDepth 100000 in
set_option maxHeartbeats 2000000 in
theorem ishort_any (s key : ByteArray) (w : World) (hs : s.size ≤ 1000000) (hk : key.size ≤ 1000000) :
    Calls Try.prog 20 #[.string s, .string key] w fun e w' => e = .returned (.int .i64 (shortV s key : Nat)) ∧ Below w.heap.size w w' := by
  have HCK := Lib.hid (fun W => check_any s W hs)
  obtain ⟨r, hr⟩ : ∃ r, r = shortV s key := ⟨_, rfl⟩
  rw [← hr]
  unfold shortV at hr
  obtain ⟨c, hc⟩ : ∃ c, c = codeOf s := ⟨_, rfl⟩
  rw [← hc] at HCK hr
  by_cases h0 : c = 0
  case neg =>
    have HR : Hid (r = 0) := Lib.hid (by rw [hr, if_neg (fun e => h0 e.1)])
    have hq : ((c : Int) != 0) = true := by simp; omega
    clear hr hc h0 hs hk
    go_enter Try.func20, Try.ntmps20
    go_wp2_with (go_at_call 23; refine Calls.mono (HCK.out _) ?_; rintro e w1 ⟨rfl, hB1⟩; have HB1 := Lib.hid hB1; clear hB1)
    go_ret
    exact ⟨by rw [HR.out]; rfl, HB1.out⟩
  subst h0
  by_cases h32 : key.size = 32
  case neg =>
    have HR : Hid (r = 0) := Lib.hid (by rw [hr, if_neg (fun e => h32 e.2)])
    have hq : ((key.size : Int) != 32) = true := by simp; omega
    clear hr hc hs hk h32
    go_enter Try.func20, Try.ntmps20
    go_wp2_with (go_at_call 23; refine Calls.mono (HCK.out _) ?_; rintro e w1 ⟨rfl, hB1⟩; have HB1 := Lib.hid hB1; clear hB1)
    go_ret
    exact ⟨by rw [HR.out]; rfl, HB1.out⟩
  have hq : ((key.size : Int) != 32) = false := by simp; omega
  rw [if_pos ⟨rfl, h32⟩] at hr
  have hge := code_ge hc.symm
  have hrl : readL s = slotsOf s := by unfold readL; rw [if_pos hc.symm]
  rw [hrl] at hr
  have H32 := Lib.hid (@readL_32 s)
  rw [hrl] at H32
  have HSZ := Lib.hid (fun W => vsize_any s W hge (by omega))
  have hcn : countV s ≤ 100000 := by unfold countV; omega
  have HVK := Lib.hid (fun i (hi' : i < countV s) W => vkey_any s i W (by have := count_at (s := s) (i := i) hge hi'; omega) hs)
  have HGT : Hid (∀ i, i < countV s → (slotsOf s)[i]? = some (slotAt s (1028 + i * 40))) := Lib.hid (fun i hi' => slots_get hi')
  obtain ⟨l, hl⟩ : ∃ l, l = slotsOf s := ⟨_, rfl⟩
  have HLL : Hid (l.length = countV s) := Lib.hid (by rw [hl]; exact slotsN_len _ _)
  rw [← hl] at hr HGT H32
  obtain ⟨n, hn⟩ : ∃ n, n = countV s := ⟨_, rfl⟩
  rw [← hn] at HSZ hcn HVK HGT HLL
  have HR := Lib.hid hr
  have HK32 := Lib.hid h32
  clear hl hn hr hrl hge hc hs h32
  go_enter Try.func20, Try.ntmps20
  go_wp2_with (first
    | (go_at_call 23; refine Calls.mono (HCK.out _) ?_; rintro e w1 ⟨rfl, hB1⟩; have HB1 := Lib.hid hB1; clear hB1)
    | (go_at_call 38; refine Calls.mono (HSZ.out _) ?_; rintro e w3 ⟨rfl, rfl⟩))
  go_loopw [6, 7, 8, 20] (fun m _ _ i wr => ∃ j : Nat, i = .int .i64 j ∧ j ≤ n ∧ m = .int .i64 (shortN (l.take j) key : Nat) ∧ Hid (Below w.heap.size w wr)) (fun _ _ _ i _ => n + 1 - (intOf i).toNat)
  case atStart => exact ⟨0, rfl, Nat.zero_le _, rfl, HB1⟩
  case round =>
    obtain ⟨j, rfl, hj, rfl, hB⟩ := hrel
    by_cases hlt : j < n
    case neg =>
      obtain rfl : j = n := by omega
      have HE : Hid (shortN (l.take j) key = r) := Lib.hid (by rw [HR.out, List.take_of_length_le (by rw [HLL.out]; exact Nat.le_refl _)])
      go_wp2_with fail
      go_ret
      exact ⟨by rw [HE.out]; rfl, hB.out⟩
    have j1 : (j : Int) < (n : Int) := by omega
    have HK := Lib.hid (fun W => HVK.out j hlt W)
    have HX := Lib.hid (HGT.out j hlt)
    obtain ⟨x, hx⟩ : ∃ x, x = slotAt s (1028 + j * 40) := ⟨_, rfl⟩
    have hxk : s.extract (1028 + j * 40) (1028 + j * 40 + 32) = x.k := by rw [hx]; rfl
    rw [hxk] at HK
    rw [← hx] at HX
    have HX32 := Lib.hid (H32.out x (List.mem_of_getElem? HX.out))
    have HSN := Lib.hid (short_snoc (key := key) HX.out)
    have hm : shortN (l.take j) key ≤ 64 := short_64 (fun y hy => H32.out y (List.mem_of_mem_take hy)) HK32.out
    obtain ⟨m, hm'⟩ : ∃ m, m = shortN (l.take j) key := ⟨_, rfl⟩
    rw [← hm'] at HSN hm ⊢
    clear hx hxk hm'
    by_cases he : x.k = key
    · have d0 : (x.k.toList == key.toList) = true := by rw [beq_list, decide_eq_true he]
      have HQ : Hid (shortN (l.take (j + 1)) key = m) := Lib.hid (by rw [HSN.out]; unfold shortS; rw [if_pos he])
      clear he
      go_wp2_with (go_at_call 39; refine Calls.mono (HK.out _) ?_; rintro e w4 ⟨rfl, rfl⟩)
      go_roundw
      case rel => exact ⟨j + 1, by go_num, by omega, by rw [HQ.out], hB⟩
      case measure => simp [intOf]; omega
    · have d0 : (x.k.toList == key.toList) = false := by rw [beq_list, decide_eq_false he]
      have HAL := Lib.hid (fun W => alike_any x.k key W HX32.out HK32.out)
      have ha : alikeK x.k key < 64 := alikeK_ne HX32.out HK32.out he
      have HQ : Hid (shortN (l.take (j + 1)) key = max m (alikeK x.k key + 1)) := Lib.hid (by rw [HSN.out]; unfold shortS; rw [if_neg he])
      obtain ⟨y, hy⟩ : ∃ y, y = alikeK x.k key := ⟨_, rfl⟩
      rw [← hy] at HAL ha HQ
      clear he hy
      go_wp2_with (first
        | (go_at_call 39; refine Calls.mono (HK.out _) ?_; rintro e w4 ⟨rfl, rfl⟩)
        | (go_at_call 45; refine Calls.mono (HAL.out _) ?_; rintro e w5 ⟨rfl, hB5⟩; have HB5 := Lib.hid (bel hB.out hB5); clear hB5))
      go_roundw
      case rel => exact ⟨j + 1, by go_num, by omega, by rw [HQ.out]; go_num, HB5⟩
      case measure => simp [intOf]; omega

end Go.Proofs.Ytjjenpklcbpkmaa
