/-
  THE ITERATOR OVER A KEY'S BITS: its contract.
-/
import Derived.Test.YtingloamfpibaaaBMarks
namespace Go.Proofs.Ytingloamfpibaaa
open Go.RowKit Go.Shelf Go.Proofs.Mem
attribute [local go_sem] Oper.semAt_some
set_option linter.unusedVariables false

/-- The sieve's cell with the number of its bits is left. -/
def CellK (Bs : Nat) (A B : World) : Prop := B.cell? ⟨Bs, 0, none⟩ = A.cell? ⟨Bs, 0, none⟩
theorem cellK_t {Bs : Nat} {A B C : World} (h : CellK Bs A B) (k : CellK Bs B C) : CellK Bs A C := k.trans h
theorem cellK_b {Bs : Nat} {w : World} (hn : Bs < w.heap.size) (W : World) (l : Nat) (o o' : Obj) (hl : w.heap.size ≤ l) (h : W.heap[l]? = some o) (hc : o.isCells = false) (hk : o.isWalk = false) : CellK Bs W (W.putObj l o') :=
  (belowK_b (n₀ := w.heap.size) (Nat.le_refl _) W l o o' hl h hc hk).cell hn

set_option maxHeartbeats 600000 in
theorem marks1_in (l Bk Bs e h : Nat) (key : ByteArray) (he : e ≤ 10) (hh : h ≤ 8) (J Jx : List (Mark key (64 * 2 ^ e) h) → World → Prop)
    (hY : ∀ pre x W, J pre W → pre.length < (marksL key (64 * 2 ^ e) h).length → YieldAt Fence.wide 7 Try.prog l (encM x) W fun e W' =>
      (e = .returned (.bool true) ∧ J (pre ++ [x]) W' ∧ CellK Bs W W') ∨ (e = .returned (.bool false) ∧ Jx (pre ++ [x]) W'))
    (W : World) (hJ : AbidesFrom W.heap.size J) (hBk : W.cell? ⟨Bk, 0, none⟩ = some (.string key)) (hB0 : W.cell? ⟨Bs, 0, none⟩ = some (.int .i64 ((64 * 2 ^ e : Nat) : Int))) (hB1 : W.cell? ⟨Bs, 1, none⟩ = some (.int .i64 h)) (h0 : J [] W) :
    CallsIn Fence.wide 8 Try.prog 36 #[.func (.yield l) #[] #[], .pointer (some ⟨Bk, 0, none⟩), .pointer (some ⟨Bs, 0, none⟩)] W fun e' W' => (∃ v, e' = .returned v) ∧
      ((∃ ys, ys = (marksL key (64 * 2 ^ e) h).attach ∧ J ys W') ∨ (∃ pre, pre <+: (marksL key (64 * 2 ^ e) h).attach ∧ Jx pre W')) := by
  refine callsIn_of_wp Try.func36 rfl trivial ?_ rfl
  simp only [Try.ntmps36, List.size_toArray, List.length_cons, List.length_nil, Nat.reduceAdd, Nat.reduceSub, Array.replicate_succ, Array.replicate_zero, List.push_toArray, List.append_toArray, List.nil_append, List.cons_append]
  refine wpIn_wide.2 ?_
  by_cases hk : key.size = 32
  case neg =>
    have hk32 : ((key.size : Int) == 32) = false := beq_eq_false_iff_ne.2 (by omega)
    have hnil : (marksL key (64 * 2 ^ e) h).attach = [] := List.eq_nil_of_length_eq_zero (by rw [List.length_attach]; unfold marksL; rw [if_neg hk]; rfl)
    have HN := Lib.hid hnil
    clear hnil
    go_wp2
    refine bodyPost_ret (results_none rfl _ _ _) rfl ?_
    exact ⟨⟨_, rfl⟩, .inl ⟨_, rfl, by rw [HN.out]; exact h0⟩⟩
  have hk32 : ((key.size : Int) == 32) = true := beq_iff_eq.2 (by omega)
  have hk32b : (key.size : Int) = 32 := by omega
  obtain ⟨x, hx⟩ : ∃ x, x = kx key := ⟨_, rfl⟩
  obtain ⟨z, hz⟩ : ∃ z, z = le8 (key.extract 8 16) := ⟨_, rfl⟩
  obtain ⟨y, hy⟩ : ∃ y, y = ky key := ⟨_, rfl⟩
  have hxf : le8 key = x := by rw [hx]; exact le8_front key hk
  have hzf : le8 (key.extract 8 32) = z := by
    have h1 := le8_from key hk
    rw [hk] at h1
    rw [hz]; exact h1
  have hyz : bits .or .u64 (z : Int) 1 = (y : Int) := by rw [or_one64 z (by rw [hz]; exact le8_lt _), hy, hz]; rfl
  have HXF := Lib.hid hxf
  have HZF := Lib.hid hzf
  have HX := Lib.hid hx
  have HY := Lib.hid hy
  clear hx hz hy hxf hzf
  have hk8 : (8 : Int) ≤ (key.size : Int) := by omega
  obtain ⟨bi, hbi⟩ : ∃ bi, bi = 64 * 2 ^ e := ⟨_, rfl⟩
  go_wp2
  have HW0 : Hid (W.drew = W.drew) := Lib.hid rfl
  have hS0 : W.drew.cell? ⟨Bk, 0, none⟩ = some (.string key) ∧ Hid (W.drew = W.drew) := ⟨hBk, HW0⟩
  go_region_held3 (fun w' => w'.cell? ⟨Bk, 0, none⟩ = some (.string key) ∧ Hid (w' = W.drew))
    (first | exact ⟨hBk, Lib.hid rfl⟩ | exact hS0 | assumption)
    ((go_at_call 37; refine Calls.mono (low_any _ _ (by first | omega | (rw [ByteArray.size_extract]; omega))) ?_; rintro e w' ⟨rfl, rfl⟩; first | rw [HXF.out] | rw [HZF.out]))
  have hgd : W.grownBy W.drew none := ⟨rfl, rfl, rfl, Nat.le_refl _, fun _ _ _ => rfl⟩
  have h0d := hJ [] W W.drew none h0 hgd (fun r e => by cases e)
  have g0 : W.drew.cell? ⟨Bs, 0, none⟩ = some (.int .i64 ((64 * 2 ^ e : Nat) : Int)) := hB0
  have g1 : W.drew.cell? ⟨Bs, 1, none⟩ = some (.int .i64 h) := hB1
  have hp1 : 2 ^ e ≤ 2 ^ 10 := Nat.pow_le_pow_right (by decide) he
  have hp0 : 1 ≤ 2 ^ e := Nat.one_le_two_pow
  have hb64 : 64 ≤ bi := by omega
  have hb65 : bi ≤ 65536 := by omega
  rw [← hbi] at g0
  have HBI := Lib.hid hbi
  clear HW0 hS0 hgd h0 hBk hB0 hB1 hbi hp1 hp0
  generalize W.drew = W1 at *
  go_wp2
  go_loopw [4, 19] (fun xv i wr => ∃ k : Nat, k ≤ h ∧ i = .int .i64 k ∧ xv = .int .u64 (kxK key k : Nat) ∧ J ((marksL key (64 * 2 ^ e) h).attach.take k) wr ∧ wr.cell? ⟨Bs, 0, none⟩ = some (.int .i64 (bi : Nat))) (fun _ i _ => h - (intOf i).toNat)
  case atStart => exact ⟨0, Nat.zero_le _, rfl, by rw [kxK_zero, ← HX.out], h0d, g0⟩
  case round =>
    obtain ⟨k, hk', rfl, rfl, hJk, c0⟩ := hrel
    by_cases hkh : k = h
    · subst hkh
      have hd : decide ((k : Int) < (k : Int)) = false := decide_eq_false (by omega)
      have HT : Hid ((marksL key (64 * 2 ^ e) k).attach.take k = (marksL key (64 * 2 ^ e) k).attach) := Lib.hid (List.take_of_length_le (by rw [List.length_attach, marksL_length _ _ _ hk]; exact Nat.le_refl _))
      go_wp2
      go_end0
      exact ⟨⟨_, rfl⟩, .inl ⟨_, rfl, by rw [← HT.out]; exact hJk⟩⟩
    · have hlt : k < h := by omega
      have hlti : (k : Int) < (h : Int) := by omega
      obtain ⟨p, hp⟩ : ∃ p, p = placeN key bi k := ⟨_, rfl⟩
      have hpl : p < bi := by rw [hp]; exact Nat.mod_lt _ (by omega)
      have hm : bits .and .u64 ((kxK key k : Nat) : Int) ((bi : Int) - 1) = (p : Int) := by
        rw [HBI.out, mask_eq _ e (kxK_lt _ _) he, hp, HBI.out]; rfl
      have hp7 : bits .and .i64 (p : Int) 7 = ((p % 8 : Nat) : Int) := by
        have h1 := and_i64 p 7 (by omega) (by decide)
        rw [show (7 : Nat) = 2 ^ 3 - 1 from rfl, Nat.and_two_pow_sub_one_eq_mod] at h1
        exact h1
      have hXlt := kxK_lt key k
      have HXS := Lib.hid (kxK_succ key k)
      obtain ⟨X, hX⟩ : ∃ X, X = kxK key k := ⟨_, rfl⟩
      rw [← hX] at hm hXlt ⊢
      have HXX := Lib.hid hX
      have HP := Lib.hid hp
      clear hX hp hXlt
      have hkl : k < (marksL key (64 * 2 ^ e) h).length := by rw [marksL_length _ _ _ hk]; exact hlt
      obtain ⟨q, hq⟩ : ∃ q : Mark key (64 * 2 ^ e) h, q = ⟨(marksL key (64 * 2 ^ e) h)[k], List.getElem_mem hkl⟩ := ⟨_, rfl⟩
      have hq1 : q.1 = (p / 8, 2 ^ (p % 8)) := by rw [hq, HP.out, HBI.out]; exact marksL_get key (64 * 2 ^ e) h k hk hlt
      have HQ := Lib.hid hq
      have HQ1 := Lib.hid hq1
      have hT := Lib.hid (attach_take (marksL key (64 * 2 ^ e) h) k hkl)
      obtain ⟨fn, tmps, assign, body, hy, hR⟩ := hY _ q wr hJk (by rw [List.length_take]; omega)
      unfold encM at hy
      rw [HQ1.out] at hy
      dsimp only at hy
      have hpw : (2 ^ (p % 8) % 256 : Int) = ((2 ^ (p % 8) : Nat) : Int) := by
        have : 2 ^ (p % 8) ≤ 2 ^ 7 := Nat.pow_le_pow_right (by decide) (by omega)
        rw [show (2 : Int) ^ (p % 8) = ((2 ^ (p % 8) : Nat) : Int) from by simp]
        have hall : ∀ t : Nat, t ≤ 2 ^ 7 → (t : Int) % 256 = t := by intro t ht; omega
        exact hall _ this
      have hpw2 : ((2 ^ (p % 8) : Nat) : Int) = 2 ^ (p % 8) % 256 := hpw.symm
      rw [hpw2, show ((p / 8 : Nat) : Int) = (p : Int) / 8 from by omega] at hy
      have HR := Lib.hid hR
      clear hq hq1 hR hY hpw hpw2
      refine (wpIn_wide (n := 8)).1 ?_
      gi_wp2
      refine HR.out.mono ?_
      rintro e W3 (⟨rfl, hJ3, hk3⟩ | ⟨rfl, hJx3⟩)
      · gi_wp2
        go_roundw
        case rel => exact ⟨k + 1, by omega, by go_num, by rw [← HXS.out, HXX.out, HY.out], by rw [hT.out, ← HQ.out]; exact hJ3, Eq.trans hk3 c0⟩
        case measure => simp [intOf]; omega
      · gi_wp2
        refine bodyPost_ret (results_none rfl _ _ _) rfl ?_
        exact ⟨⟨_, rfl⟩, .inr ⟨_, ⟨(marksL key (64 * 2 ^ e) h).attach.drop (k + 1), by rw [HQ.out, ← hT.out]; exact List.take_append_drop _ _⟩, hJx3⟩⟩

end Go.Proofs.Ytingloamfpibaaa
