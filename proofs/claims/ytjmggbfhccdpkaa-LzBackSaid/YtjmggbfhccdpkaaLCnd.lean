/-
  The places ahead with the same four bytes: plain laws, and the iterator.
-/
import Derived.Test.YtjmggbfhccdpkaaLFin
import Derived.Test.YtjmggbfhccdpkaaVGrp
namespace Go.Proofs.Ytjmggbfhccdpkaa
open Go.RowKit Go.Shelf Go.Proofs.Mem Go.Maps
attribute [local go_sem] Oper.semAt_some
set_option linter.unusedVariables false

theorem Heads.look2 {w : World} {M n : Nat} {f : ByteArray → Option Nat} (h : Heads w M n f) (k : ByteArray) (hk : k.size ≤ maxLen) :
    (Instr.lookup 33 (.map (some M)) (.string k) true).run Try.prog w = .ok (.tuple #[.int .i64 ((f k).getD 0 : Nat), .bool (f k).isSome]) w := by
  obtain ⟨D, hD, hf⟩ := h
  obtain ⟨v, ps, hrun, hv⟩ := hD.look_ok skey Try.underlying33 (szero w) (plainElem_int Try.underlying3 (by decide)) (WideMaps.keyOf_string_mk Try.underlying9 hk)
  obtain ⟨c, rfl, hc, _⟩ := plainElem_int_inv Try.underlying3 hv
  simp only [Prod.mk.injEq] at hc
  have hs : has D (Lit.string k.data.toList) = (f k).isSome := (hf k).1
  rw [hrun, hs]
  cases ho : f k with
  | none =>
    rw [ho] at hs
    have h2 := hc.1
    rw [atKey_of_not_has hs] at h2
    injection h2 with h2
    injection h2 with _ h2
    rw [← h2]
    rfl
  | some q =>
    have h1 := (hf k).2 q ho
    have h2 := hc.1
    unfold klit at h1
    rw [h1] at h2
    injection h2 with h2
    injection h2 with _ h2
    rw [← h2]
    rfl

theorem while_mem {α : Type} {p : α → Bool} : ∀ {l : List α}, ∀ x ∈ l.takeWhile p, p x = true
  | [], x, h => by cases h
  | y :: l, x, h => by
    rw [List.takeWhile_cons] at h
    split at h
    · rename_i hy
      rcases List.mem_cons.1 h with rfl | h
      · exact hy
      · exact while_mem x h
    · cases h
def candL (s : ByteArray) (at_ : Nat) : List Nat := if at_ + 4 ≤ s.size then (chainL s (fourAt s at_) at_).takeWhile (fun q => decide (at_ - q ≤ 4096)) else []
abbrev Cnd (s : ByteArray) (at_ : Nat) := { q : Nat // q ∈ candL s at_ }
def encC {s : ByteArray} {at_ : Nat} (x : Cnd s at_) : Array Value := #[.int .i64 (x.1 : Nat)]
theorem cand_lt {s : ByteArray} {at_ : Nat} : ∀ q ∈ candL s at_, q < at_ ∧ at_ + 4 ≤ s.size ∧ q + 4 ≤ s.size ∧ fourAt s q = fourAt s at_ ∧ at_ - q ≤ 4096 := by
  intro q h
  unfold candL at h
  split at h
  · rename_i h4
    have hm := List.takeWhile_subset _ h
    have hp := while_mem _ h
    obtain ⟨h1, h2, h3⟩ := chain_lt q hm
    exact ⟨h1, h4, h2, h3, by simpa using hp⟩
  · cases h

theorem grown_drewN (W : World) (m : Nat) : W.grownBy (W.drewN m) none :=
  ⟨(below_drewN (Below.refl W.heap.size W) m).os, (below_drewN (Below.refl W.heap.size W) m).tape, (below_drewN (Below.refl W.heap.size W) m).output, (below_drewN (Below.refl W.heap.size W) m).size, fun k hk _ => (below_drewN (Below.refl W.heap.size W) m).block k hk⟩

theorem candidates_any (F at_ : Nat) (w : World) :
    Calls Try.prog 23 #[.pointer (some ⟨F, 0, none⟩), .int .i64 at_] w fun e w' => e = .returned (.func (.func 32) #[] #[.pointer (some ⟨w.heap.size + 1, 0, none⟩), .pointer (some ⟨w.heap.size, 0, none⟩)]) ∧
      (w.alloc (.cells #[.pointer (some ⟨F, 0, none⟩)] 32)).alloc (.cells #[.int .i64 at_] 3) = w' := by
  go_enter Try.func23, Try.ntmps23
  go_wp2
  go_ret
  exact ⟨rfl, rfl⟩

/-- What a round keeps: what lay there ahead, and the two cells that the iterator holds. -/
def KeepC (n a f : Nat) (A B : World) : Prop := Below n A B ∧ CellK a A B ∧ CellK f A B
theorem keepC_t {n a f : Nat} {A B C : World} (h : KeepC n a f A B) (k : KeepC n a f B C) : KeepC n a f A C := ⟨h.1.trans k.1, cellK_t h.2.1 k.2.1, cellK_t h.2.2 k.2.2⟩
theorem keepC_b {n a f : Nat} {w : World} (hn : n ≤ w.heap.size) (ha : a < w.heap.size) (hf : f < w.heap.size) (W : World) (l : Nat) (o o' : Obj) (hl : w.heap.size ≤ l) (h : W.heap[l]? = some o) (hc : o.isCells = false) (hk : o.isWalk = false) : KeepC n a f W (W.putObj l o') :=
  ⟨belowK_b hn W l o o' hl h hc hk, cellK_b ha W l o o' hl h hc hk, cellK_b hf W l o o' hl h hc hk⟩

def headI (l : List Nat) : Int := match l.head? with | some q => (q : Int) | none => -1

set_option maxRecDepth 100000 in
set_option maxHeartbeats 2000000 in
theorem cands_in (l Ba Bf n0 : Nat) (B F M at_ : Nat) (bv : Value) (s : ByteArray) (hs : s.size ≤ 100000) (hat : at_ ≤ s.size) (J Jx : List (Cnd s at_) → World → Prop)
    (hY : ∀ pre x W, J pre W → pre.length < (candL s at_).length → YieldAt Fence.wide 7 Try.prog l (encC x) W fun e W' =>
      (e = .returned (.bool true) ∧ J (pre ++ [x]) W' ∧ KeepC n0 Ba Bf W W') ∨ (e = .returned (.bool false) ∧ Jx (pre ++ [x]) W'))
    (W : World) (hJ : AbidesFrom W.heap.size J) (hBa : W.cell? ⟨Ba, 0, none⟩ = some (.int .i64 at_)) (hBf : W.cell? ⟨Bf, 0, none⟩ = some (.pointer (some ⟨F, 0, none⟩))) (hF : Fndr W B F M bv s at_) (hn0F : F < n0) (hn0M : M < n0) (hn0g : ∀ g, bv.ownBlock = some g → g < n0) (h0 : J [] W) :
    CallsIn Fence.wide 8 Try.prog 32 #[.func (.yield l) #[] #[], .pointer (some ⟨Ba, 0, none⟩), .pointer (some ⟨Bf, 0, none⟩)] W fun e' W' => (∃ v, e' = .returned v) ∧
      ((∃ ys, ys = (candL s at_).attach ∧ J ys W') ∨ (∃ pre, pre <+: (candL s at_).attach ∧ Jx pre W')) := by
  refine callsIn_of_wp Try.func32 rfl trivial ?_ rfl
  simp only [Try.ntmps32, List.size_toArray, List.length_cons, List.length_nil, Nat.reduceAdd, Nat.reduceSub, Array.replicate_succ, Array.replicate_zero, List.push_toArray, List.append_toArray, List.nil_append, List.cons_append]
  refine wpIn_wide.2 ?_
  obtain ⟨g0, g1, g2, gf⟩ := hF.cells
  have HF := Lib.hid hF
  have HJ := Lib.hid hJ
  have H0 := Lib.hid h0
  clear hF hJ h0
  have wsum : IntKind.i64.wrap ((at_ : Int) + 4) = (at_ : Int) + 4 := by rw [IntKind.wrap_i64]; omega
  by_cases h4 : at_ + 4 ≤ s.size
  case neg =>
    have d1 : decide ((s.size : Int) < (at_ : Int) + 4) = true := decide_eq_true (by omega)
    have HN : Hid ((candL s at_).attach = []) := Lib.hid (List.eq_nil_of_length_eq_zero (by rw [List.length_attach]; unfold candL; rw [if_neg h4]; rfl))
    go_wp2
    go_quiet (fail)
    go_wp2
    refine bodyPost_ret (results_none rfl _ _ _) rfl ?_
    exact ⟨⟨_, rfl⟩, .inl ⟨_, rfl, by rw [HN.out]; exact HJ.out [] W _ none H0.out (grown_drewN W _) (fun r e => by cases e)⟩⟩
  have d1 : decide ((s.size : Int) < (at_ : Int) + 4) = false := decide_eq_false (by omega)
  have i1 : (at_ : Int) + 4 ≤ (s.size : Int) := by omega
  have i0 : (0 : Int) ≤ (at_ : Int) := by omega
  have i2 : (0 : Int) ≤ (at_ : Int) + 4 := by omega
  have i3 : ((at_ : Int) + 4).toNat = at_ + 4 := by omega
  obtain ⟨k, hk⟩ : ∃ k, k = fourAt s at_ := ⟨_, rfl⟩
  have hke : s.extract at_ (at_ + 4) = k := by rw [hk]; rfl
  have hks : k.size ≤ maxLen := by rw [hk]; unfold fourAt maxLen; rw [ByteArray.size_extract]; omega
  have hCL : candL s at_ = (chainL s k at_).takeWhile (fun q => decide (at_ - q ≤ 4096)) := by unfold candL; rw [if_pos h4, hk]
  have HCL := Lib.hid hCL
  have hch : ∀ n q t, chainL s k n = q :: t → backV s q = headI t ∧ q + 4 ≤ s.size := by
    intro n q t h
    have hm := chain_lt q (by rw [h]; exact List.mem_cons_self)
    rw [back_of hm.2.1, hm.2.2, ← chain_tail h]
    exact ⟨rfl, hm.2.1⟩
  have HCH := Lib.hid hch
  have hlook : ∀ m, (Instr.lookup 33 (.map (some M)) (.string k) true).run Try.prog (W.drewN m) = .ok (.tuple #[.int .i64 (((chainL s k at_).head?).getD 0 : Nat), .bool ((chainL s k at_).head?).isSome]) (W.drewN m) := fun m =>
    (HF.out.hds.at_ ((below_drewN (Below.refl W.heap.size W) m).block M HF.out.hds.lt)).look2 k hks
  obtain ⟨ok, hok⟩ : ∃ b, b = ((chainL s k at_).head?).isSome := ⟨_, rfl⟩
  obtain ⟨z, hz⟩ : ∃ b, b = ((chainL s k at_).head?).getD 0 := ⟨_, rfl⟩
  rw [← hok, ← hz] at hlook
  have HOK : Hid (ok = true → (z : Int) = headI (chainL s k at_)) := Lib.hid (fun h => by
    rw [hz]
    unfold headI
    cases hh : (chainL s k at_).head? with
    | none => rw [hok, hh] at h; cases h
    | some q => rfl)
  have HNO : Hid (ok = false → chainL s k at_ = []) := Lib.hid (fun h => by
    rw [hok] at h
    cases hh : chainL s k at_ with
    | nil => rfl
    | cons q t => rw [hh] at h; cases h)
  have hB0 : ∀ m, Below n0 W (W.drewN m) := fun m => below_drewN (Below.refl n0 W) m
  have HB0 := Lib.hid hB0
  have HZB : Hid (z < s.size) := Lib.hid (by
    rw [hz]
    cases hh : (chainL s k at_).head? with
    | none => show 0 < s.size; omega
    | some q => have := (chain_lt q (List.mem_of_mem_head? hh)).1; show q < s.size; omega)
  have HBQ := Lib.hid (fun q (h : q < at_) => backL_get (s := s) (n := at_) h)
  clear hk hks hCL hch hok hz hB0 h4
  go_wp2
  go_quiet (fail)
  go_wp2
  go_quiet (fail)
  go_wp2
  go_loopw [4] (fun zv wr => ∃ (n m : Nat) (zz : Int), zv = .int .i64 zz ∧ n ≤ at_ ∧ Hid ((candL s at_).drop m = (chainL s k n).takeWhile (fun q => decide (at_ - q ≤ 4096)) ∧ m ≤ (candL s at_).length) ∧ Hid (ok = true → zz = headI (chainL s k n)) ∧ Hid (ok = false → chainL s k n = []) ∧
    J ((candL s at_).attach.take m) wr ∧ Hid (Below n0 W wr) ∧ wr.cell? ⟨Ba, 0, none⟩ = some (.int .i64 at_) ∧ wr.cell? ⟨Bf, 0, none⟩ = some (.pointer (some ⟨F, 0, none⟩))) (fun zv _ => (intOf zv + 1).toNat)
  case atStart => exact ⟨at_, 0, z, rfl, Nat.le_refl _, Lib.hid ⟨HCL.out, Nat.zero_le _⟩, HOK, HNO, HJ.out _ _ _ none (HJ.out [] W _ none H0.out (grown_drewN W _) (fun r e => by cases e)) (grown_drewN _ _) (fun r e => by cases e), Lib.hid (below_drewN (HB0.out _) _), hBa, hBf⟩
  case round =>
    obtain ⟨n, m, zz, rfl, hnat, HD, HZ, HE, hJm, HB, ca, cf⟩ := hrel
    have c0 := (HB.out.cell (p := ⟨F, 0, none⟩) hn0F).trans g0
    clear hBa hBf hlook
    have HDONE : Hid ((chainL s k n).takeWhile (fun q => decide (at_ - q ≤ 4096)) = [] → J (candL s at_).attach wr) := Lib.hid (fun h => by
      have h1 := HD.out.1
      rw [h] at h1
      have h2 : (candL s at_).attach.take m = (candL s at_).attach := List.take_of_length_le (by rw [List.length_attach]; exact List.drop_eq_nil_iff.1 h1)
      rw [← h2]
      exact hJm)
    cases ok with
    | false =>
      have HQ := Lib.hid (HDONE.out (by rw [HE.out rfl]; rfl))
      clear hJm
      go_wp2
      go_end0
      first | exact ⟨⟨_, rfl⟩, .inl ⟨_, rfl, HQ.out⟩⟩ | exact ⟨⟨_, rfl⟩, .inl HQ.out⟩
    | true =>
      have hzz := HZ.out rfl
      cases hc : chainL s k n with
      | nil =>
        rw [hc] at hzz HDONE
        have hz1 : zz = -1 := hzz
        subst hz1
        have HQ := Lib.hid (HDONE.out rfl)
        clear hJm hzz hc
        go_wp2
        go_end0
        first | exact ⟨⟨_, rfl⟩, .inl ⟨_, rfl, HQ.out⟩⟩ | exact ⟨⟨_, rfl⟩, .inl HQ.out⟩
      | cons q t =>
        have hq1 : zz = (q : Int) := by rw [hzz, hc]; rfl
        subst hq1
        obtain ⟨hbq, hq4⟩ := HCH.out n q t hc
        have hqn : q < n := (chain_lt q (by rw [hc]; exact List.mem_cons_self)).1
        have hqat : q < at_ := by omega
        have htail := chain_tail hc
        have e1 : (0 : Int) ≤ (q : Int) := by omega
        by_cases hwin : at_ - q ≤ 4096
        case neg =>
          have HQ := Lib.hid (HDONE.out (by rw [hc, List.takeWhile_cons, if_neg (by simpa using hwin)]))
          have e2 : decide ((at_ : Int) - (q : Int) ≤ 4096) = false := decide_eq_false (by omega)
          have e3 : ((at_ : Int) - (q : Int) ≤ 4096) = False := by simp; omega
          clear hJm hzz hc hbq htail hwin
          go_wp2
          go_end0
          first | exact ⟨⟨_, rfl⟩, .inl ⟨_, rfl, HQ.out⟩⟩ | exact ⟨⟨_, rfl⟩, .inl HQ.out⟩
        have e2 : decide ((at_ : Int) - (q : Int) ≤ 4096) = true := decide_eq_true (by omega)
        have e3 : (at_ : Int) - (q : Int) ≤ 4096 := by omega
        have hdr := HD.out.1
        rw [hc, List.takeWhile_cons, if_pos (by simpa using hwin)] at hdr
        have hml : m < (candL s at_).length := by
          rcases Nat.lt_or_ge m (candL s at_).length with h | h
          · exact h
          · rw [List.drop_eq_nil_of_le h] at hdr; cases hdr
        have hget : (candL s at_)[m] = q := by
          have h1 := List.drop_eq_getElem_cons hml
          rw [hdr] at h1
          injection h1 with h1 _
          exact h1.symm
        have hrest : (candL s at_).drop (m + 1) = t.takeWhile (fun q => decide (at_ - q ≤ 4096)) := by
          have h1 := List.drop_eq_getElem_cons hml
          rw [hdr] at h1
          injection h1 with _ h2
          exact h2.symm
        obtain ⟨x, hx⟩ : ∃ x : Cnd s at_, x = ⟨(candL s at_)[m], List.getElem_mem hml⟩ := ⟨_, rfl⟩
        have hx1 : x.1 = q := by rw [hx]; exact hget
        have HTX : Hid ((candL s at_).attach.take (m + 1) = (candL s at_).attach.take m ++ [x]) := Lib.hid (by rw [attach_take (candL s at_) m hml, hx])
        have HREST := Lib.hid hrest
        have HML := Lib.hid hml
        have HTL := Lib.hid htail
        have HHT : Hid (headI t < (q : Int)) := Lib.hid (by
          unfold headI
          cases hh : t.head? with
          | none => show (-1 : Int) < _; omega
          | some r =>
            have h1 := List.mem_of_mem_head? hh
            rw [htail] at h1
            have := (chain_lt r h1).1
            show (r : Int) < _
            omega)
        have HBQ2 := Lib.hid hbq
        obtain ⟨g, cap, hbv, hg1, hg2⟩ := HF.out.bck.form (show 0 < at_ by omega)
        have hcg : W.cell? ⟨g, q, none⟩ = some (.int .i64 (headI t)) := by
          have h1 := HF.out.bck
          rw [hbv] at h1
          rw [h1.cellAt q (by omega), HBQ.out q hqat, hbq]
        have hg0 : g < n0 := hn0g g (by rw [hbv]; rfl)
        rw [hbv] at g2
        obtain ⟨fn, tmps, assign, body, hy, hR⟩ := hY _ x wr hJm (by rw [List.length_take]; omega)
        unfold encC at hy
        rw [hx1] at hy
        have HR := Lib.hid hR
        have HCG := Lib.hid hcg
        have HG2 := Lib.hid g2
        have HWIN := Lib.hid hwin
        clear hx hx1 hR hY hzz hc hbq htail hwin hdr hget hrest hbv hcg g2 hJm HDONE hml
        refine (wpIn_wide (n := 8)).1 ?_
        gi_wp2
        refine HR.out.mono ?_
        rintro e W3 (⟨rfl, hJ3, hk3⟩ | ⟨rfl, hJx3⟩)
        · have HB3 := Lib.hid (HB.out.trans hk3.1)
          have ca3 := Eq.trans hk3.2.1 ca
          have cf3 := Eq.trans hk3.2.2 cf
          have b2 := (HB3.out.cell (p := ⟨F, 2, none⟩) hn0F).trans HG2.out
          have bq := (HB3.out.cell (p := ⟨g, q, none⟩) hg0).trans HCG.out
          have HJ3 := Lib.hid hJ3
          have iq : (q : Int) < (at_ : Int) := by omega
          clear hJ3 hk3 ca cf c0
          gi_wp2
          go_roundw
          case rel => exact ⟨q, m + 1, _, rfl, by omega, Lib.hid ⟨by rw [HREST.out, HTL.out], HML.out⟩, Lib.hid (fun _ => by rw [← HTL.out]), Lib.hid (fun h => by cases h), by rw [HTX.out]; exact HJ3.out, HB3, ca3, cf3⟩
          case measure => have := HHT.out; simp [intOf]; omega
        · gi_wp2
          refine bodyPost_ret (results_none rfl _ _ _) rfl ?_
          exact ⟨⟨_, rfl⟩, .inr ⟨_, ⟨(candL s at_).attach.drop (m + 1), by rw [← HTX.out]; exact List.take_append_drop _ _⟩, hJx3⟩⟩

end Go.Proofs.Ytjmggbfhccdpkaa
