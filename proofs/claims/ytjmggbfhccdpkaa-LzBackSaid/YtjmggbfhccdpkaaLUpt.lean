/-
  The next part taken.
-/
import Derived.Test.YtjmggbfhccdpkaaLUag
import Derived.Test.YtjmggbfhccdpkaaVLaw
namespace Go.Proofs.Ytjmggbfhccdpkaa
open Go.RowKit Go.Shelf Go.Proofs.Mem
set_option linter.unusedVariables false

theorem ext_drop (x : ByteArray) (n : Nat) : (x.extract n x.size).data.toList = x.data.toList.drop n := by
  have : x.data.toList.length = x.size := Array.length_toList
  simp
  first | done | (rw [List.take_of_length_le]; simp)
theorem ext_take (x : ByteArray) (n : Nat) : (x.extract 0 n).data.toList = x.data.toList.take n := by simp
theorem byteAt_append (a b : ByteArray) (i : Nat) : byteAt (a ++ b) i = if i < a.size then byteAt a i else byteAt b (i - a.size) := by
  by_cases h : i < a.size
  · rw [if_pos h, byteAt_eq _ _ (by rw [ByteArray.size_append]; omega), byteAt_eq _ _ h, ByteArray.getElem_append_left h]
  · rw [if_neg h]
    by_cases h2 : i - a.size < b.size
    · rw [byteAt_eq _ _ (by rw [ByteArray.size_append]; omega), byteAt_eq _ _ h2, ByteArray.getElem_append_right (by omega)]
    · unfold byteAt
      rw [dif_neg (by rw [ByteArray.size_append]; omega), dif_neg h2]
theorem putL_more (k n : Nat) (h : n < 128 ^ (k + 1)) : putL k n = putL (k + 1) n := by
  induction k generalizing n with
  | zero =>
    have h128 : n < 128 := by simpa using h
    rw [putL_small 0 n h128, putL_small 1 n h128]
  | succ k ih =>
    by_cases h128 : n < 128
    · rw [putL_small _ n h128, putL_small _ n h128]
    · have e1 : putL (k + 1) n = UInt8.ofNat (n % 128 + 128) :: putL k (n / 128) := by show (if n < 128 then _ else _) = _; rw [if_neg h128]
      have e2 : putL (k + 1 + 1) n = UInt8.ofNat (n % 128 + 128) :: putL (k + 1) (n / 128) := by show (if n < 128 then _ else _) = _; rw [if_neg h128]
      rw [e1, e2, ih (n / 128) (by rw [Nat.pow_succ] at h; exact Nat.div_lt_of_lt_mul (by rw [Nat.mul_comm]; exact h))]
theorem putB_at (n j : Nat) (h : j < (putL 10 n).length) : byteAt (putB n) j = (putL 10 n)[j].toNat := by
  have hs : (putB n).size = (putL 10 n).length := by show (putL 10 n).toArray.size = _; rw [List.size_toArray]
  rw [byteAt_eq _ _ (by omega)]
  show ((putL 10 n).toArray[j]'(by simpa using h)).toNat = _
  rw [List.getElem_toArray]
theorem putB_lenx (n : Nat) : (putB n).size = (putL 10 n).length := by show (putL 10 n).toArray.size = _; rw [List.size_toArray]
theorem p70 : 128 ^ 10 = 1180591620717411303424 := by decide
/-- Take of what Put wrote, whatever stands behind. -/
theorem take_putB (n : Nat) (r : ByteArray) (h : n < 18446744073709551616) : takeB (putB n ++ r) = (n, (putB n).size, 0) := by
  have hm : putL 9 n = putL 10 n := putL_more 9 n (by rw [p70]; omega)
  have hl : LiesAt (putB n ++ r) 0 (putL 9 n) := by
    rw [hm]
    refine ⟨by rw [ByteArray.size_append, putB_lenx]; omega, fun j hj => ?_⟩
    rw [Nat.zero_add, byteAt_append, if_pos (by rw [putB_lenx]; exact hj), putB_at n j hj]
  have := take_put (putB n ++ r) 9 0 0 n rfl hl (by simpa using h) (by intro h; omega) (by rw [p70]; omega)
  unfold takeB
  rw [this, hm, putB_lenx]
  simp
theorem take_of_put (s : ByteArray) (f : Nat) (rest : List UInt8) (hf : f ≤ 4096) (hs : s.data.toList = (putB f).data.toList ++ rest) : takeB s = (f, (putB f).size, 0) := by
  have e : s = putB f ++ ⟨rest.toArray⟩ := by
    apply ByteArray.ext
    apply Array.toList_inj.1
    rw [hs, ByteArray.data_append, Array.toList_append]
  rw [e]
  exact take_putB f _ (by omega)
def UpN (w : World) (B u z : Nat) (t : List UInt8) (e : Ending) (w' : World) : Prop := e = .returned (.int .i64 0) ∧ Below B w w' ∧ ∃ s' out', Up w' B u s' out' ∧ Unp s'.data.toList out' t ∧ s'.size < z

set_option maxHeartbeats 2000000 in
theorem upart_any (w : World) (B u : Nat) (s : ByteArray) (out t : List UInt8) (h : Up w B u s out) (hU : Unp s.data.toList out t) (hpos : 0 < s.size) (ht : t.length ≤ 900000) (hBw : B ≤ w.heap.size) (hs : s.size ≤ 100000) :
    Calls Try.prog 22 #[.pointer (some ⟨u, 0, none⟩)] w (UpN w B u s.size t) := by
  have hol := hU.le
  have hsl : s.data.toList.length = s.size := Array.length_toList
  obtain ⟨v, hP⟩ := h
  obtain ⟨c0, c1, cf, csh⟩ := hP.cells
  have h1s : 1 ≤ s.size := hpos
  have hBu := hP.hB
  obtain ⟨s1, hs1⟩ : ∃ x, x = s.extract 1 s.size := ⟨_, rfl⟩
  have hs1l : s1.data.toList = s.data.toList.drop 1 := by rw [hs1, ext_drop]
  have hs1z : s1.size = s.size - 1 := by rw [hs1, ByteArray.size_extract]; omega
  have HP1 : Hid (Up (w.setCell ⟨u, 0, none⟩ (.string s1)) B u s1 out) := Lib.hid ⟨_, hP.setS s1⟩
  have HB1 : Hid (Below B w (w.setCell ⟨u, 0, none⟩ (.string s1))) := Lib.hid ((Below.refl B w).setCell (p := ⟨u, 0, none⟩) hBu _)
  have hs1' := hs1.symm
  have hhd : s.data.toList = s[0] :: s1.data.toList := by
    rw [hs1l]
    have h0 : 0 < s.data.toList.length := by omega
    have := @List.getElem_cons_drop _ s.data.toList 0 h0
    rw [List.drop_zero] at this
    exact this.symm
  obtain ⟨x, hx⟩ : ∃ x, x = s.data.toList := ⟨_, rfl⟩
  rw [← hx] at hU hhd
  obtain ⟨c, hc⟩ : ∃ c, c = (s[0]'hpos).toNat := ⟨_, rfl⟩
  have hb := hc.symm
  have HC := Lib.hid hc
  have HH := Lib.hid hhd
  have HZ := Lib.hid hs1z
  have hs1s : s1.size ≤ 100000 := by omega
  have hB1 := HB1.out.size
  have hBw1 : B ≤ (w.setCell ⟨u, 0, none⟩ (.string s1)).heap.size := by simp; exact hBw
  clear hP hs1 hs1l hs1z hx hhd hc hsl hB1
  cases hU with
  | done => exact absurd HH.out (by simp)
  | row l rest _ _ h0 h1 h =>
    have e := HH.out
    injection e with e1 e2
    have hcl : c + 1 = l.length := by rw [HC.out, ← e1, UInt8.toNat_ofNat', Nat.mod_eq_of_lt (by omega)]; omega
    have hl8 : c < 128 := by omega
    have hls : s1.size = (l ++ rest).length := by rw [e2]; exact Array.length_toList.symm
    rw [List.length_append] at hls
    have HR := Lib.hid (urow_any _ B u (c + 1) s1 out HP1.out (by omega) (by omega) (by omega) hBw1 (by omega))
    have HN : Hid (Unp (s1.extract (c + 1) s1.size).data.toList (out ++ (s1.extract 0 (c + 1)).data.toList) t) := Lib.hid (by
      rw [ext_drop, ext_take, ← e2, hcl, List.drop_left, List.take_left]
      exact h)
    have hsz : (s1.extract (c + 1) s1.size).size < s.size := by rw [ByteArray.size_extract]; have := HZ.out; omega
    have HZ2 := Lib.hid hsz
    have c128 : (c : Int) < 128 := by omega
    clear e1 e2 hcl hls hsz h0 h1 hol
    go_enter Try.func22, Try.ntmps22
    go_wp2_with (go_at_call 30; refine Calls.mono HR.out ?_; rintro e w1 ⟨rfl, hu1, hb1⟩; have HU := Lib.hid hu1; have HB := Lib.hid (HB1.out.trans hb1); clear hu1 hb1)
    go_ret
    exact ⟨rfl, HB.out, _, _, HU.out, HN.out, HZ2.out⟩
  | again n f m rest _ _ h4 h131 hf1 hf hfo hm hcp h =>
    have e := HH.out
    injection e with e1 e2
    have hcl : c = n + 124 := by rw [HC.out, ← e1, UInt8.toNat_ofNat', Nat.mod_eq_of_lt (by omega)]
    have htk := take_of_put s1 f rest hf e2.symm
    have hls : s1.size = ((putB f).data.toList ++ rest).length := by rw [e2]; exact Array.length_toList.symm
    have hpl : (putB f).data.toList.length = (putB f).size := Array.length_toList
    rw [List.length_append, hpl] at hls
    have HR : Hid (Calls Try.prog 31 #[.pointer (some ⟨u, 0, none⟩), .int .i64 ((c : Int) - 128 + 4)] (w.setCell ⟨u, 0, none⟩ (.string s1)) (UpQ (w.setCell ⟨u, 0, none⟩ (.string s1)) B u (s1.extract (putB f).size s1.size) (out ++ m))) := Lib.hid (by
      rw [show (c : Int) - 128 + 4 = (n : Nat) by omega]
      exact uagain_any _ B u n f (putB f).size s1 out m HP1.out htk (by omega) h131 hf1 hfo hm hcp (by omega) hBw1 (by omega))
    have HN : Hid (Unp (s1.extract (putB f).size s1.size).data.toList (out ++ m) t) := Lib.hid (by
      rw [ext_drop, ← e2, ← hpl, List.drop_left]
      exact h)
    have hsz : (s1.extract (putB f).size s1.size).size < s.size := by rw [ByteArray.size_extract]; have := HZ.out; omega
    have HZ2 := Lib.hid hsz
    have c128 : ¬ (c : Int) < 128 := by omega
    have hc256 : c < 256 := by omega
    clear e1 e2 hcl hls hsz hol hf1 hf hfo h4 h131 hcp h hm htk hpl
    go_enter Try.func22, Try.ntmps22
    go_wp2_with (go_at_call 31; refine Calls.mono HR.out ?_; rintro e w1 ⟨rfl, hu1, hb1⟩; have HU := Lib.hid hu1; have HB := Lib.hid (HB1.out.trans hb1); clear hu1 hb1)
    go_ret
    exact ⟨rfl, HB.out, _, _, HU.out, HN.out, HZ2.out⟩

end Go.Proofs.Ytjmggbfhccdpkaa
