/-
  MESSAGES AS BYTES, there and back: the plain law.
-/
import Derived.Test.YthlajcohbpjgkaaDoorMWrt
namespace Go.Proofs.YthlajcohbpjgkaaDoor
open Go.RowKit Go.Proofs.Mem
set_option linter.unusedVariables false

theorem head_byte (s : ByteArray) (h : 0 < s.size) : s = ⟨#[UInt8.ofNat (byteAt s 0)]⟩ ++ s.extract 1 s.size := by
  refine ba_ext (by rw [ByteArray.size_append, ByteArray.size_extract]; show _ = 1 + _; omega) fun j => ?_
  rw [byteAt_append]
  show _ = if j < 1 then _ else _
  have hb := byteAt_lt s 0
  cases j with
  | zero =>
    rw [if_pos (by omega), byteAt_eq ⟨#[UInt8.ofNat (byteAt s 0)]⟩ 0 (by show 0 < 1; omega)]
    show _ = (UInt8.ofNat (byteAt s 0)).toNat
    rw [UInt8.toNat_ofNat', Nat.mod_eq_of_lt (by omega)]
  | succ j =>
    rw [if_neg (by omega), byteAt_extract]
    congr 1
    show j + 1 = 1 + (j + 1 - 1)
    omega
theorem tail_app (c : UInt8) (r : ByteArray) : ((⟨#[c]⟩ : ByteArray) ++ r).extract 1 ((⟨#[c]⟩ : ByteArray) ++ r).size = r := extract_behind ⟨#[c]⟩ r
theorem head_app (c : UInt8) (r : ByteArray) : byteAt ((⟨#[c]⟩ : ByteArray) ++ r) 0 = c.toNat := by
  rw [byteAt_append]
  show (if 0 < 1 then _ else _) = _
  rw [if_pos (by decide), byteAt_eq ⟨#[c]⟩ 0 (by show 0 < 1; omega)]
  rfl
theorem size_app (c : UInt8) (r : ByteArray) : ((⟨#[c]⟩ : ByteArray) ++ r).size = 1 + r.size := by rw [ByteArray.size_append]; rfl
theorem fit_root (t q : ByteArray) (h : q.size ≠ 32) : fitL ⟨1, t, q, [], [], 0⟩ = false := by
  unfold fitL
  dsimp only
  rw [if_pos rfl, decide_eq_false h, Bool.and_false, Bool.and_false]
theorem cat_keys (l : List ByteArray) : catB l = catI 2 (l.map fun k => (k, ⟨#[]⟩)) := by
  rw [catI_cat, List.map_map]
  congr 1
  rw [show (itemB 2 ∘ fun k : ByteArray => (k, (⟨#[]⟩ : ByteArray))) = id from rfl, List.map_id]
theorem cat_objs (l : List (ByteArray × ByteArray)) : catB (l.map fun x => x.1 ++ putT x.2) = catI 3 l := by
  rw [catI_cat]
  rfl
theorem mk_keys (l : List ByteArray) : mkL 2 (l.map fun k => (k, ⟨#[]⟩)) = M2 l := by
  unfold mkL M2
  rw [if_pos rfl, List.map_map]
  congr 1
  rw [show ((fun x : ByteArray × ByteArray => x.1) ∘ fun k : ByteArray => (k, (⟨#[]⟩ : ByteArray))) = id from rfl, List.map_id]
theorem mk_objs (l : List (ByteArray × ByteArray)) : mkL 3 l = M3 l := by
  unfold mkL M3
  rw [if_neg (by decide)]
/-- Read of what Write wrote, and of more. -/
theorem read_writex (m : MsgL) (hf : fitL m = true) (x : ByteArray) : readM (writeL m ++ x) = if x.size = 0 then some m else none := by
  rcases fit_cases m hf with ⟨n, r, rfl, h1, h2⟩ | ⟨l, rfl, h1, h2, h3⟩ | ⟨l, rfl, h1, h2, h3⟩ | ⟨e, rfl, h1⟩
  · have hn : n.size ≤ 31 := by
      unfold nameB at h1
      rw [Bool.and_eq_true, Bool.and_eq_true] at h1
      exact of_decide_eq_true h1.2.1
    rw [write_1 n r hf, app_assoc, app_assoc]
    unfold readM
    rw [tail_app, head_app, size_app, takeT_put n (r ++ x) (by omega)]
    dsimp only
    rw [if_neg (by omega), if_pos (by decide), if_neg (by simp), extract_behind]
    by_cases hx : x.size = 0
    · obtain rfl := nil_of_size hx
      rw [app_nil, if_pos hx]
      rw [if_pos (show fitL ⟨1, n, r, [], [], 0⟩ = true from hf)]
      rfl
    · rw [if_neg hx, if_neg (by rw [fit_root n (r ++ x) (by rw [ByteArray.size_append]; omega)]; decide)]
  · rw [write_2 l hf, app_assoc, app_assoc]
    unfold readM
    rw [tail_app, head_app, size_app, take_putB l.length _ (by omega)]
    dsimp only
    rw [if_neg (by omega), if_neg (by decide), if_neg (by decide), if_pos (by decide), if_neg (by rintro (h | h); exact h rfl; omega), extract_behind, cat_keys]
    have hi := itemsL_put 2 (l.map fun k => (k, ⟨#[]⟩)) x (fun y hy => by
      obtain ⟨k, hk, rfl⟩ := List.mem_map.1 hy
      exact ⟨h1 k hk, Nat.zero_le _, fun _ => rfl⟩)
    rw [List.length_map] at hi
    rw [show (((2 : UInt8).toNat : Nat) : Int) = 2 from rfl, hi]
    dsimp only
    by_cases hx : x.size = 0
    · rw [if_pos hx, if_neg (by omega), mk_keys, if_pos hf]
    · rw [if_neg hx, if_pos hx]
  · rw [write_3 l hf, app_assoc, app_assoc]
    unfold readM
    rw [tail_app, head_app, size_app, take_putB l.length _ (by omega)]
    dsimp only
    rw [if_neg (by omega), if_neg (by decide), if_neg (by decide), if_pos (by decide), if_neg (by rintro (h | h); exact h rfl; omega), extract_behind, cat_objs]
    have hi := itemsL_put 3 l x (fun y hy => ⟨(h1 y hy).1, (h1 y hy).2, fun h => absurd h (by decide)⟩)
    rw [show (((3 : UInt8).toNat : Nat) : Int) = 3 from rfl, hi]
    dsimp only
    by_cases hx : x.size = 0
    · rw [if_pos hx, if_neg (by omega), mk_objs, if_pos hf]
    · rw [if_neg hx, if_pos hx]
  · rw [write_4 e hf, app_assoc]
    unfold readM
    rw [tail_app, head_app, size_app, take_putB e _ (by omega)]
    dsimp only
    rw [if_neg (by omega), if_neg (by decide), if_pos (by decide), if_neg (by rintro (h | h); exact h rfl; omega)]
    by_cases hx : x.size = 0
    · rw [if_pos hx, if_neg (by rw [ByteArray.size_append]; omega)]
      rfl
    · rw [if_neg hx, if_pos (by rw [ByteArray.size_append]; omega)]
theorem read_write (m : MsgL) (hf : fitL m = true) : readM (writeL m) = some m := by
  have h := read_writex m hf ⟨#[]⟩
  rw [app_nil] at h
  exact h.trans (if_pos size_nil)
theorem items_parts (kind : Int) (n : Nat) (s : ByteArray) (l : List (ByteArray × ByteArray)) (h : itemsL kind n s = some (l, ⟨#[]⟩)) : l.length = n ∧ s = catI kind l := by
  obtain ⟨h1, h2⟩ := itemsL_split kind n s l ⟨#[]⟩ h
  rw [app_nil] at h2
  exact ⟨h1, h2⟩
/-- What is read is what was written. -/
theorem write_readM (s : ByteArray) (m : MsgL) (h : readM s = some m) : fitL m = true ∧ writeL m = s := by
  unfold readM at h
  by_cases h0 : s.size = 0
  · rw [if_pos h0] at h; cases h
  rw [if_neg h0] at h
  have hs := head_byte s (by omega)
  obtain ⟨r, hr⟩ : ∃ r, r = s.extract 1 s.size := ⟨_, rfl⟩
  rw [← hr] at h hs
  by_cases h1 : byteAt s 0 = 1
  · rw [if_pos h1] at h
    rw [h1] at hs
    obtain ⟨⟨t, k, c⟩, ht⟩ : ∃ x, x = takeT r := ⟨_, rfl⟩
    rw [← ht] at h
    dsimp only at h
    by_cases hc : c = 0
    · subst hc
      rw [if_neg (by simp)] at h
      split at h
      · rename_i hf
        injection h with h
        subst h
        obtain ⟨g1, g2, g3⟩ := takeT_split r t k ht.symm
        refine ⟨hf, ?_⟩
        rw [show (⟨1, t, r.extract k r.size, [], [], 0⟩ : MsgL) = M1 t (r.extract k r.size) from rfl, write_1 _ _ hf, ← g3]
        exact hs.symm
      · cases h
    · rw [if_pos hc] at h; cases h
  rw [if_neg h1] at h
  by_cases h4 : byteAt s 0 = 4
  · rw [if_pos h4] at h
    rw [h4] at hs
    obtain ⟨⟨n, k, c⟩, ht⟩ : ∃ x, x = takeB r := ⟨_, rfl⟩
    rw [← ht] at h
    dsimp only at h
    split at h
    · cases h
    · rename_i hn
      split at h
      · cases h
      · rename_i hk
        injection h with h
        subst h
        have hc : c = 0 := by
          rcases Nat.eq_zero_or_pos c with h | h
          · exact h
          · exact absurd (.inl (by omega)) hn
        subst hc
        have hn' : n ≤ 19 := by
          rcases Nat.lt_or_ge 19 n with h | h
          · exact absurd (.inr h) hn
          · exact h
        obtain ⟨g1, g2, g3⟩ := take_split r n k ht.symm
        have hf : fitL (M4 n) = true := by
          unfold fitL bareL M4
          have e1 : ¬ (4 : Int) = 1 := by decide
          have e2 : ¬ (4 : Int) = 2 := by decide
          have e3 : ¬ (4 : Int) = 3 := by decide
          dsimp only
          rw [if_neg e1, if_neg e2, if_neg e3, if_neg e1, if_neg e2, if_neg e3, Bool.and_eq_true, decide_eq_true_iff, decide_eq_true_iff]
          exact ⟨rfl, rfl, by omega, by omega⟩
        refine ⟨hf, ?_⟩
        have e := write_4 n hf
        have g4 : r.extract k r.size = ⟨#[]⟩ := nil_of_size (by rw [ByteArray.size_extract]; omega)
        rw [g4, app_nil] at g3
        rw [← g3] at e
        exact e.trans hs.symm
  rw [if_neg h4] at h
  by_cases h23 : byteAt s 0 = 2 ∨ byteAt s 0 = 3
  case neg => rw [if_neg h23] at h; cases h
  rw [if_pos h23] at h
  obtain ⟨⟨n, k, c⟩, ht⟩ : ∃ x, x = takeB r := ⟨_, rfl⟩
  rw [← ht] at h
  dsimp only at h
  split at h
  · cases h
  rename_i hn
  have hc : c = 0 := by
    rcases Nat.eq_zero_or_pos c with h | h
    · exact h
    · exact absurd (.inl (by omega)) hn
  subst hc
  obtain ⟨g1, g2, g3⟩ := take_split r n k ht.symm
  obtain ⟨q, hq⟩ : ∃ q, q = r.extract k r.size := ⟨_, rfl⟩
  rw [← hq] at h g3
  cases hi : itemsL (byteAt s 0 : Nat) n q with
  | none => rw [hi] at h; cases h
  | some lr =>
    obtain ⟨l, z⟩ := lr
    rw [hi] at h
    dsimp only at h
    split at h
    · cases h
    rename_i hz
    obtain rfl := nil_of_size (by omega : z.size = 0)
    obtain ⟨p1, p2⟩ := items_parts _ _ _ _ hi
    split at h
    case isFalse => cases h
    rename_i hf
    injection h with h
    subst h
    refine ⟨hf, ?_⟩
    rcases h23 with h2 | h3
    · rw [h2] at hf p2 hs ⊢
      have e : mkL ((2 : Nat) : Int) l = M2 (l.map (·.1)) := rfl
      rw [e] at hf ⊢
      rw [write_2 _ hf, List.length_map, p1]
      have e2 : catI ((2 : Nat) : Int) l = catB (l.map (·.1)) := by
        rw [catI_cat]
        rfl
      rw [← e2, ← p2, ← g3]
      exact hs.symm
    · rw [h3] at hf p2 hs ⊢
      have e : mkL ((3 : Nat) : Int) l = M3 l := rfl
      rw [e] at hf ⊢
      rw [write_3 _ hf, p1, cat_objs, show (3 : Int) = ((3 : Nat) : Int) from rfl, ← p2, ← g3]
      exact hs.symm
/-- Bytes cut off, and longer ones. -/
theorem read_cut (m : MsgL) (hf : fitL m = true) (k : Nat) (hk : k < (writeL m).size) : readM ((writeL m).extract 0 k) = none := by
  cases h : readM ((writeL m).extract 0 k) with
  | none => rfl
  | some m' =>
    exfalso
    obtain ⟨h1, h2⟩ := write_readM _ m' h
    have h3 := read_writex m' h1 ((writeL m).extract k (writeL m).size)
    rw [h2, split_at (writeL m) k (by omega), read_write m hf, if_neg (by rw [ByteArray.size_extract]; omega)] at h3
    cases h3
/-- The same bytes just if the same. -/
theorem write_inj (m n : MsgL) (hm : fitL m = true) (hn : fitL n = true) : (writeL m = writeL n) ↔ m = n := by
  constructor
  · intro h
    have h1 := read_write m hm
    rw [h, read_write n hn] at h1
    exact (Option.some.inj h1).symm
  · rintro rfl; rfl
/-- A message's first byte is its kind. -/
theorem write_head (m : MsgL) (hf : fitL m = true) : 1 < (writeL m).size ∧ (byteAt (writeL m) 0 : Nat) = m.kind := by
  have hp : ∀ n, 0 < (putB n).size := by
    intro n
    show 0 < (putL 10 n).toArray.size
    rw [List.size_toArray]
    show 0 < (if n < 128 then _ else _ : List UInt8).length
    split <;> simp
  rcases fit_cases m hf with ⟨n, r, rfl, h1, h2⟩ | ⟨l, rfl, h1, h2, h3⟩ | ⟨l, rfl, h1, h2, h3⟩ | ⟨e, rfl, h1⟩
  · rw [write_1 n r hf, head_app, size_app, ByteArray.size_append]; exact ⟨by omega, rfl⟩
  · rw [write_2 l hf, head_app, size_app, ByteArray.size_append]; exact ⟨by have := hp l.length; omega, rfl⟩
  · rw [write_3 l hf, head_app, size_app, ByteArray.size_append]; exact ⟨by have := hp l.length; omega, rfl⟩
  · rw [write_4 e hf, head_app, size_app]; exact ⟨by have := hp e; omega, rfl⟩

end Go.Proofs.YthlajcohbpjgkaaDoor
