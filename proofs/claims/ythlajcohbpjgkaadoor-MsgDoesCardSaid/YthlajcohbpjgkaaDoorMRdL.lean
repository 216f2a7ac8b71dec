/-
  MESSAGES FROM BYTES, plainly.
-/
import Derived.Test.YthlajcohbpjgkaaDoorVLaw
import Derived.Test.YthlajcohbpjgkaaDoorMTxt
import Derived.Test.YthlajcohbpjgkaaDoorMDef
namespace Go.Proofs.YthlajcohbpjgkaaDoor
open Go.RowKit Go.Proofs.Mem
set_option linter.unusedVariables false

theorem ba_ext {a b : ByteArray} (hs : a.size = b.size) (h : ∀ j, byteAt a j = byteAt b j) : a = b := by
  apply ByteArray.ext
  apply Array.ext
  · exact hs
  · intro i h1 h2
    have := h i
    rw [byteAt_eq a i h1, byteAt_eq b i h2] at this
    exact UInt8.toNat_inj.1 this
theorem byteAt_append (a b : ByteArray) (i : Nat) : byteAt (a ++ b) i = if i < a.size then byteAt a i else byteAt b (i - a.size) := by
  by_cases h : i < a.size
  · rw [if_pos h, byteAt_eq _ _ (by rw [ByteArray.size_append]; omega), byteAt_eq _ _ h, ByteArray.getElem_append_left h]
  · rw [if_neg h]
    by_cases h2 : i - a.size < b.size
    · rw [byteAt_eq _ _ (by rw [ByteArray.size_append]; omega), byteAt_eq _ _ h2, ByteArray.getElem_append_right (by omega)]
    · unfold byteAt
      rw [dif_neg (by rw [ByteArray.size_append]; omega), dif_neg h2]
theorem putL_more (k n : Nat) (h : n < 128 ^ (k + 1)) : putL k n = putL (k + 1) n := by
  induction k generalizing n with
  | zero =>
    have h128 : n < 128 := by simpa using h
    rw [putL_small 0 n h128, putL_small 1 n h128]
  | succ k ih =>
    by_cases h128 : n < 128
    · rw [putL_small _ n h128, putL_small _ n h128]
    · have e1 : putL (k + 1) n = UInt8.ofNat (n % 128 + 128) :: putL k (n / 128) := by show (if n < 128 then _ else _) = _; rw [if_neg h128]
      have e2 : putL (k + 1 + 1) n = UInt8.ofNat (n % 128 + 128) :: putL (k + 1) (n / 128) := by show (if n < 128 then _ else _) = _; rw [if_neg h128]
      rw [e1, e2, ih (n / 128) (by rw [Nat.pow_succ] at h; exact Nat.div_lt_of_lt_mul (by rw [Nat.mul_comm]; exact h))]
theorem putB_at (n j : Nat) (h : j < (putL 10 n).length) : byteAt (putB n) j = (putL 10 n)[j].toNat := by
  have hs : (putB n).size = (putL 10 n).length := by show (putL 10 n).toArray.size = _; rw [List.size_toArray]
  rw [byteAt_eq _ _ (by omega)]
  show ((putL 10 n).toArray[j]'(by simpa using h)).toNat = _
  rw [List.getElem_toArray]
theorem putB_len (n : Nat) : (putB n).size = (putL 10 n).length := by show (putL 10 n).toArray.size = _; rw [List.size_toArray]
theorem p70 : 128 ^ 10 = 1180591620717411303424 := by decide
/-- Take of what Put wrote, whatever stands behind. -/
theorem take_putB (n : Nat) (r : ByteArray) (h : n < 18446744073709551616) : takeB (putB n ++ r) = (n, (putB n).size, 0) := by
  have hm : putL 9 n = putL 10 n := putL_more 9 n (by rw [p70]; omega)
  have hl : LiesAt (putB n ++ r) 0 (putL 9 n) := by
    rw [hm]
    refine ⟨by rw [ByteArray.size_append, putB_len]; omega, fun j hj => ?_⟩
    rw [Nat.zero_add, byteAt_append, if_pos (by rw [putB_len]; exact hj), putB_at n j hj]
  have := take_put (putB n ++ r) 9 0 0 n rfl hl (by simpa using h) (by intro h; omega) (by rw [p70]; omega)
  unfold takeB
  rw [this, hm, putB_len]
  simp
/-- What Take reads is what Put writes. -/
theorem put_takeB (s : ByteArray) (x k : Nat) (h : takeB s = (x, k, 0)) (hx : x < 18446744073709551616) : k = (putB x).size ∧ k ≤ s.size ∧ ∀ j, j < k → byteAt s j = byteAt (putB x) j := by
  obtain ⟨m, hxm, _, hl, hk⟩ := put_take s 9 0 0 x k rfl h
  obtain rfl : x = m := by simpa using hxm
  have hm : putL 9 x = putL 10 x := putL_more 9 x (by rw [p70]; omega)
  rw [hm] at hl hk
  rw [Nat.zero_add] at hk
  refine ⟨by rw [putB_len, hk], by have := hl.1; omega, fun j hj => ?_⟩
  have := hl.2 j (by omega)
  rw [Nat.zero_add] at this
  rw [this, putB_at x j (by omega)]
theorem byteAt_extract (s : ByteArray) (i j : Nat) : byteAt (s.extract i s.size) j = byteAt s (i + j) := by
  by_cases h : i + j < s.size
  · rw [byteAt_eq _ _ (by rw [ByteArray.size_extract]; omega), byteAt_eq _ _ h, ByteArray.getElem_extract]
  · unfold byteAt
    rw [dif_neg (by rw [ByteArray.size_extract]; omega), dif_neg h]
theorem extract_behind (a b : ByteArray) : (a ++ b).extract a.size (a ++ b).size = b := by
  refine ba_ext (by rw [ByteArray.size_extract, ByteArray.size_append]; omega) fun j => ?_
  rw [byteAt_extract, byteAt_append, if_neg (by omega)]
  congr 1
  omega

theorem drop_all (s : ByteArray) : s.extract 0 s.size = s := ByteArray.extract_zero_size
theorem app_nil (s : ByteArray) : s ++ (⟨#[]⟩ : ByteArray) = s := ByteArray.append_empty
theorem nil_app (s : ByteArray) : (⟨#[]⟩ : ByteArray) ++ s = s := ByteArray.empty_append
theorem app_assoc (a b c : ByteArray) : a ++ b ++ c = a ++ (b ++ c) := ByteArray.append_assoc
theorem size_nil : (⟨#[]⟩ : ByteArray).size = 0 := rfl
theorem nil_of_size {s : ByteArray} (h : s.size = 0) : s = ⟨#[]⟩ := ba_ext h (fun j => by
  unfold byteAt
  rw [dif_neg (by omega), dif_neg (by rw [size_nil]; omega)])
theorem extract_front (a b : ByteArray) : (a ++ b).extract 0 a.size = a := by
  refine ba_ext (by rw [ByteArray.size_extract, ByteArray.size_append]; omega) fun j => ?_
  by_cases h : j < a.size
  · rw [byteAt_eq _ _ (by rw [ByteArray.size_extract, ByteArray.size_append]; omega), ByteArray.getElem_extract]
    rw [← byteAt_eq (a ++ b) (0 + j) (by rw [ByteArray.size_append]; omega), byteAt_append, Nat.zero_add, if_pos h]
  · unfold byteAt
    rw [dif_neg (by rw [ByteArray.size_extract, ByteArray.size_append]; omega), dif_neg h]
theorem split_at (s : ByteArray) (k : Nat) (h : k ≤ s.size) : s.extract 0 k ++ s.extract k s.size = s := by
  refine ba_ext (by rw [ByteArray.size_append, ByteArray.size_extract, ByteArray.size_extract]; omega) fun j => ?_
  rw [byteAt_append, ByteArray.size_extract]
  by_cases hj : j < k
  · rw [if_pos (by omega), byteAt_eq _ _ (by rw [ByteArray.size_extract]; omega), ByteArray.getElem_extract, ← byteAt_eq s (0 + j) (by omega), Nat.zero_add]
  · rw [if_neg (by omega), byteAt_extract]
    congr 1
    omega
/-- What Take reads, as texts. -/
theorem take_split (s : ByteArray) (x k : Nat) (h : takeB s = (x, k, 0)) : k = (putB x).size ∧ k ≤ s.size ∧ s = putB x ++ s.extract k s.size := by
  have hx : x < 18446744073709551616 := by have := takeB_lt s; rw [h] at this; exact this
  obtain ⟨h1, h2, h3⟩ := put_takeB s x k h hx
  refine ⟨h1, h2, ?_⟩
  refine ba_ext (by rw [ByteArray.size_append, ByteArray.size_extract, ← h1]; omega) fun j => ?_
  rw [byteAt_append, ← h1]
  by_cases hj : j < k
  · rw [if_pos hj]; exact h3 j hj
  · rw [if_neg hj, byteAt_extract]
    congr 1
    omega
theorem takeT_put (t r : ByteArray) (h : t.size ≤ 65536) : takeT (putT t ++ r) = (t, (putT t).size, 0) := by
  have h1 : takeB (putT t ++ r) = (t.size, (putB t.size).size, 0) := by
    unfold putT
    rw [app_assoc]
    exact take_putB t.size (t ++ r) (by omega)
  have hs : (putT t).size = (putB t.size).size + t.size := by unfold putT; rw [ByteArray.size_append]
  unfold takeT
  rw [h1]
  dsimp only
  rw [if_neg (by simp), if_neg (by omega), if_neg (by rw [ByteArray.size_append, hs]; omega)]
  refine Prod.ext ?_ (Prod.ext hs.symm rfl)
  show (putT t ++ r).extract (putB t.size).size ((putB t.size).size + t.size) = t
  refine ba_ext (by rw [ByteArray.size_extract, ByteArray.size_append, hs]; omega) fun j => ?_
  by_cases hj : j < t.size
  · rw [byteAt_eq _ _ (by rw [ByteArray.size_extract, ByteArray.size_append, hs]; omega), ByteArray.getElem_extract, ← byteAt_eq (putT t ++ r) ((putB t.size).size + j) (by rw [ByteArray.size_append, hs]; omega), byteAt_append, if_pos (by rw [hs]; omega)]
    unfold putT
    rw [byteAt_append, if_neg (by omega)]
    congr 1
    omega
  · unfold byteAt
    rw [dif_neg (by rw [ByteArray.size_extract, ByteArray.size_append, hs]; omega), dif_neg hj]
theorem takeT_end (s : ByteArray) : (takeT s).2.1 ≤ s.size := by
  have := takeB_end s
  unfold takeT
  split
  · exact Nat.zero_le _
  · split
    · exact Nat.zero_le _
    · split
      · exact Nat.zero_le _
      · show _ + _ ≤ _; omega
theorem takeT_split (s t : ByteArray) (k : Nat) (h : takeT s = (t, k, 0)) : k ≤ s.size ∧ t.size ≤ 65536 ∧ s = putT t ++ s.extract k s.size := by
  have he := takeT_end s
  rw [h] at he
  refine ⟨he, ?_⟩
  obtain ⟨⟨n, j, c⟩, ht⟩ : ∃ x, x = takeB s := ⟨_, rfl⟩
  unfold takeT at h
  rw [← ht] at h
  dsimp only at h
  by_cases hc : c = 0
  · subst hc
    rw [if_neg (by simp)] at h
    by_cases h6 : 65536 < n
    · rw [if_pos h6] at h; injection h with _ h; injection h with _ h; cases h
    · rw [if_neg h6] at h
      by_cases hl : s.size - j < n
      · rw [if_pos hl] at h; injection h with _ h; injection h with _ h; cases h
      · rw [if_neg hl] at h
        injection h with h1 h2
        injection h2 with h2 _
        obtain ⟨g1, g2, g3⟩ := take_split s n j ht.symm
        have hts : t.size = n := by rw [← h1, ByteArray.size_extract]; omega
        refine ⟨by omega, ?_⟩
        unfold putT
        rw [hts, app_assoc]
        have g4 : s.extract j s.size = t ++ s.extract k s.size := by
          have := split_at (s.extract j s.size) n (by rw [ByteArray.size_extract]; omega)
          rw [ByteArray.extract_extract, ByteArray.extract_extract] at this
          rw [← this, ← h1]
          congr 1
          · congr 1 <;> omega
          · rw [ByteArray.size_extract]; congr 1 <;> omega
        rw [← g4]
        exact g3
  · rw [if_pos hc] at h; injection h with _ h; injection h with _ h; exact absurd h hc

/-- One key, or one object. -/
def itemL (kind : Int) (s : ByteArray) : Option ((ByteArray × ByteArray) × ByteArray) :=
  if s.size < 32 then none
  else if kind = 2 then some ((s.extract 0 32, ⟨#[]⟩), s.extract 32 s.size)
  else if (takeT (s.extract 32 s.size)).2.2 ≠ 0 then none
  else some ((s.extract 0 32, (takeT (s.extract 32 s.size)).1), (s.extract 32 s.size).extract (takeT (s.extract 32 s.size)).2.1 (s.extract 32 s.size).size)
def itemsL (kind : Int) : Nat → ByteArray → Option (List (ByteArray × ByteArray) × ByteArray)
  | 0, s => some ([], s)
  | n + 1, s =>
    match itemL kind s with
    | none => none
    | some (x, r) =>
      match itemsL kind n r with
      | none => none
      | some (l, r') => some (x :: l, r')
def mkL (kind : Int) (l : List (ByteArray × ByteArray)) : MsgL := if kind = 2 then ⟨kind, ⟨#[]⟩, ⟨#[]⟩, l.map (·.1), [], 0⟩ else ⟨kind, ⟨#[]⟩, ⟨#[]⟩, [], l, 0⟩
/-- The bytes of one. -/
def itemB (kind : Int) (x : ByteArray × ByteArray) : ByteArray := if kind = 2 then x.1 else x.1 ++ putT x.2
theorem itemL_put (kind : Int) (x : ByteArray × ByteArray) (r : ByteArray) (h1 : x.1.size = 32) (h2 : x.2.size ≤ 40000) (h3 : kind = 2 → x.2 = ⟨#[]⟩) : itemL kind (itemB kind x ++ r) = some (x, r) := by
  obtain ⟨k, t⟩ := x
  dsimp only at h1 h2 h3
  unfold itemL itemB
  dsimp only
  by_cases hk : kind = 2
  · rw [if_pos hk, if_neg (by rw [ByteArray.size_append]; omega), if_pos hk, h3 hk, ← h1, extract_front, extract_behind]
  · rw [if_neg hk, if_neg (by rw [ByteArray.size_append, ByteArray.size_append]; omega), if_neg hk, app_assoc, ← h1, extract_front, extract_behind, takeT_put t r (by omega)]
    dsimp only
    rw [if_neg (by simp), extract_behind]
theorem itemL_split (kind : Int) (s : ByteArray) (x : ByteArray × ByteArray) (r : ByteArray) (h : itemL kind s = some (x, r)) : x.1.size = 32 ∧ s = itemB kind x ++ r := by
  unfold itemL at h
  by_cases h32 : s.size < 32
  · rw [if_pos h32] at h; cases h
  · rw [if_neg h32] at h
    have hk : (s.extract 0 32).size = 32 := by rw [ByteArray.size_extract]; omega
    by_cases hk2 : kind = 2
    · rw [if_pos hk2] at h
      injection h with h
      injection h with hx hr
      subst hx hr
      refine ⟨hk, ?_⟩
      unfold itemB
      rw [if_pos hk2]
      exact (split_at s 32 (by omega)).symm
    · rw [if_neg hk2] at h
      obtain ⟨⟨t, j, c⟩, ht⟩ : ∃ y, y = takeT (s.extract 32 s.size) := ⟨_, rfl⟩
      rw [← ht] at h
      dsimp only at h
      by_cases hc : c = 0
      · subst hc
        rw [if_neg (by simp)] at h
        injection h with h
        injection h with hx hr
        subst hx hr
        refine ⟨hk, ?_⟩
        unfold itemB
        rw [if_neg hk2]
        dsimp only
        obtain ⟨_, _, g⟩ := takeT_split _ t j ht.symm
        rw [app_assoc, ← g]
        exact (split_at s 32 (by omega)).symm
      · rw [if_pos hc] at h; cases h
def catI (kind : Int) : List (ByteArray × ByteArray) → ByteArray
  | [] => ⟨#[]⟩
  | x :: l => itemB kind x ++ catI kind l
theorem itemsL_put (kind : Int) (l : List (ByteArray × ByteArray)) (r : ByteArray) (h : ∀ x ∈ l, x.1.size = 32 ∧ x.2.size ≤ 40000 ∧ (kind = 2 → x.2 = ⟨#[]⟩)) : itemsL kind l.length (catI kind l ++ r) = some (l, r) := by
  induction l with
  | nil => show some ([], _) = _; rw [show catI kind [] = ⟨#[]⟩ from rfl, nil_app]
  | cons x l ih =>
    obtain ⟨h1, h2, h3⟩ := h x (List.mem_cons_self ..)
    rw [List.length_cons, itemsL, catI, app_assoc, itemL_put kind x _ h1 h2 h3]
    dsimp only
    rw [ih (fun y hy => h y (List.mem_cons_of_mem _ hy))]
theorem itemsL_split (kind : Int) (n : Nat) (s : ByteArray) (l : List (ByteArray × ByteArray)) (r : ByteArray) (h : itemsL kind n s = some (l, r)) : l.length = n ∧ s = catI kind l ++ r := by
  induction n generalizing s l r with
  | zero =>
    injection h with h
    injection h with hl hr
    subst hl hr
    exact ⟨rfl, (nil_app _).symm⟩
  | succ n ih =>
    rw [itemsL] at h
    cases hi : itemL kind s with
    | none => rw [hi] at h; cases h
    | some xr =>
      obtain ⟨x, r1⟩ := xr
      rw [hi] at h
      dsimp only at h
      cases hj : itemsL kind n r1 with
      | none => rw [hj] at h; cases h
      | some lr =>
        obtain ⟨l1, r2⟩ := lr
        rw [hj] at h
        dsimp only at h
        injection h with h
        injection h with hl hr
        subst hl hr
        obtain ⟨g1, g2⟩ := ih r1 l1 r2 hj
        obtain ⟨_, g3⟩ := itemL_split kind s x r1 hi
        refine ⟨by rw [List.length_cons, g1], ?_⟩
        rw [catI, app_assoc, ← g2]
        exact g3

theorem foldl_app (l : List ByteArray) (a : ByteArray) : l.foldl (· ++ ·) a = a ++ catB l := by
  unfold catB
  induction l generalizing a with
  | nil => exact (app_nil a).symm
  | cons x l ih => rw [List.foldl_cons, ih, List.foldl_cons, ih (⟨#[]⟩ ++ x), nil_app, app_assoc]
theorem catB_cons (x : ByteArray) (l : List ByteArray) : catB (x :: l) = x ++ catB l := by
  show List.foldl _ (⟨#[]⟩ ++ x) l = _
  rw [foldl_app, nil_app]
theorem catI_cat (kind : Int) (l : List (ByteArray × ByteArray)) : catI kind l = catB (l.map (itemB kind)) := by
  induction l with
  | nil => rfl
  | cons x l ih => rw [catI, List.map_cons, catB_cons, ih]

/-- The message of bytes. -/
def readM (s : ByteArray) : Option MsgL :=
  if s.size = 0 then none
  else if byteAt s 0 = 1 then
    (if (takeT (s.extract 1 s.size)).2.2 ≠ 0 then none
     else
      let m : MsgL := ⟨1, (takeT (s.extract 1 s.size)).1, (s.extract 1 s.size).extract (takeT (s.extract 1 s.size)).2.1 (s.extract 1 s.size).size, [], [], 0⟩
      if fitL m = true then some m else none)
  else if byteAt s 0 = 4 then
    (if (takeB (s.extract 1 s.size)).2.2 ≠ 0 ∨ 19 < (takeB (s.extract 1 s.size)).1 then none
     else if (takeB (s.extract 1 s.size)).2.1 < (s.extract 1 s.size).size then none
     else some ⟨4, ⟨#[]⟩, ⟨#[]⟩, [], [], ((takeB (s.extract 1 s.size)).1 : Nat)⟩)
  else if byteAt s 0 = 2 ∨ byteAt s 0 = 3 then
    (if (takeB (s.extract 1 s.size)).2.2 ≠ 0 ∨ 4 < (takeB (s.extract 1 s.size)).1 then none
     else match itemsL (byteAt s 0 : Nat) (takeB (s.extract 1 s.size)).1 ((s.extract 1 s.size).extract (takeB (s.extract 1 s.size)).2.1 (s.extract 1 s.size).size) with
      | none => none
      | some (l, r) => if r.size ≠ 0 then none else if fitL (mkL (byteAt s 0 : Nat) l) = true then some (mkL (byteAt s 0 : Nat) l) else none)
  else none

end Go.Proofs.YthlajcohbpjgkaaDoor
