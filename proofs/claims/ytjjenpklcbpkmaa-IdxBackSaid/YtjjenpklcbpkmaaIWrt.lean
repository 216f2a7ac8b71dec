/-
  Slots as an index's bytes.
-/
import Derived.Test.YtjjenpklcbpkmaaIRFit
import Derived.Test.YtjjenpklcbpkmaaIFan
import Derived.ChangeKeysEq
import Derived.Lib.OthersKept
namespace Go.Proofs.Ytjjenpklcbpkmaa
open Go.RowKit Go.Proofs.Mem
set_option linter.unusedVariables false

def magicL : List UInt8 := [83, 73, 88, 49]
def entL (x : Slt) : List UInt8 := x.k.data.toList ++ wordL x.a.toNat ++ wordL x.s.toNat
def fansL (l : List Slt) (n : Nat) : List UInt8 := (List.range n).flatMap fun b => wordL (fanN l b)
def entsL (l : List Slt) : List UInt8 := l.flatMap entL
def bodyL (l : List Slt) : List UInt8 := magicL ++ fansL l 256 ++ entsL l
def bodyB (l : List Slt) : ByteArray := ⟨(bodyL l).toArray⟩
/-- Slots as an index's bytes. -/
def writeB (l : List Slt) : ByteArray := if fitP l then bodyB l ++ crcB (crcN (bodyB l)) else ⟨#[]⟩

theorem wb_below {B b : Nat} {bs : List Value} {W W' : World} (h : WB B b bs W) (hb : Below W.heap.size W W') : WB B b bs W' := by
  have one : ∀ p, Lib.BuilderAtF 59 5 B b p bs W → Lib.BuilderAtF 59 5 B b p bs W' := by
    intro p h
    have hlt := h.lt
    obtain ⟨hB, v, hv, hown, hne⟩ := h
    exact ⟨hB, v, (hb.block b hlt).trans hv, hown.kept (row := none) ⟨hb.os, hb.tape, hb.output, hb.size, fun k hk _ => hb.block k hk⟩ (Classical.em _), hne⟩
  exact h.elim (fun x => .inl (one _ x)) (fun x => .inr (one _ x))
theorem wb_lt {B b : Nat} {bs : List Value} {W : World} (h : WB B b bs W) : b < W.heap.size := h.elim (fun x => x.lt) (fun x => x.lt)
/-- A slot in a block of its own. -/
def BoxS (w : World) (q : Nat) (x : Slt) : Prop := w.heap[q]? = some (.cells #[.string x.k, .int .i64 x.a, .int .i64 x.s] 34 (0, 0))
theorem BoxS.others {w w' : World} {q b : Nat} {x : Slt} (h : BoxS w q x) (hq : q < w.heap.size) (hb : q ≠ b) (ho : Others b w w') : BoxS w' q x := by
  unfold BoxS at *
  rw [ho q hq hb (fun cs fr e => by rw [h] at e; cases e)]
  exact h
theorem BoxS.cells {w : World} {q : Nat} {x : Slt} (h : BoxS w q x) : w.cell? ⟨q, 0, none⟩ = some (.string x.k) ∧ w.cell? ⟨q, 1, none⟩ = some (.int .i64 x.a) ∧ w.cell? ⟨q, 2, none⟩ = some (.int .i64 x.s) := by
  refine ⟨?_, ?_, ?_⟩
  all_goals (rw [Lib.cell_of_heap h]; rfl)
theorem app_len (a : List UInt8) (s : ByteArray) : (a ++ s.data.toList).length = a.length + s.size := by rw [List.length_append]; rfl
theorem fansL_len (l : List Slt) (n : Nat) : (fansL l n).length = 4 * n := by
  unfold fansL
  induction n with
  | zero => rfl
  | succ n ih => rw [List.range_succ, List.flatMap_append, List.length_append, ih]; simp [wordL_len]; omega
theorem fansL_succ (l : List Slt) (n : Nat) : fansL l (n + 1) = fansL l n ++ wordL (fanN l n) := by
  unfold fansL
  rw [List.range_succ, List.flatMap_append]
  simp
theorem entsL_snoc {l : List Slt} {k : Nat} {x : Slt} (h : l[k]? = some x) : entsL (l.take (k + 1)) = entsL (l.take k) ++ entL x := by
  unfold entsL
  rw [List.take_add_one, h, List.flatMap_append]
  simp
theorem entL_len (x : Slt) (h : x.k.size = 32) : (entL x).length = 40 := by
  unfold entL
  rw [List.length_append, List.length_append, wordL_len, wordL_len, Array.length_toList]
  show x.k.size + 4 + 4 = 40
  omega
theorem entsL_len (l : List Slt) (h : ∀ x ∈ l, x.k.size = 32) : (entsL l).length = 40 * l.length := by
  unfold entsL
  induction l with
  | nil => rfl
  | cons x l ih =>
    rw [List.flatMap_cons, List.length_append, ih (fun y hy => h y (by simp [hy])), entL_len x (h x (by simp)), List.length_cons]
    omega
theorem fit_at {l : List Slt} (h : fitP l = true) {x : Slt} (hx : x ∈ l) : x.k.size = 32 ∧ numP x.a ∧ numP x.s := by
  unfold fitP fitL at h
  rw [Bool.and_eq_true, List.all_eq_true] at h
  obtain ⟨k, hk, rfl⟩ := List.getElem_of_mem hx
  have := h.2 k (List.mem_range.2 hk)
  unfold fitAt at this
  rw [List.getElem?_eq_getElem hk] at this
  simp only [Bool.and_eq_true, decide_eq_true_eq] at this
  exact ⟨this.1.1.1, this.1.2, this.2⟩
theorem fit_len {l : List Slt} (h : fitP l = true) : l.length ≤ 4096 := by
  unfold fitP at h
  rw [Bool.and_eq_true, decide_eq_true_eq] at h
  exact h.1
theorem strCells_eq (s : ByteArray) : Lib.strCells s = Lib.byteCells s.data.toList := by unfold Lib.strCells Lib.byteCells; first | rfl | simp
theorem byteCells_app (a b : List UInt8) : Lib.byteCells a ++ Lib.byteCells b = Lib.byteCells (a ++ b) := by unfold Lib.byteCells; rw [List.map_append]
theorem wword_int (B b : Nat) (l : List UInt8) (a : Int) (w : World) (ha : numP a) (h : WB B b (Lib.byteCells l) w) (hl : l.length ≤ 1000000) (hBw : B ≤ w.heap.size) :
    Calls Try.prog 31 #[.pointer (some ⟨b, 0, none⟩), .int .i64 a] w fun e w' => e = .returned (.tuple #[]) ∧ WB B b (Lib.byteCells (l ++ wordL a.toNat)) w' ∧ Below B w w' ∧ Others b w w' := by
  obtain ⟨n, rfl⟩ : ∃ n : Nat, a = (n : Int) := ⟨a.toNat, by have := ha.1; omega⟩
  have hn : n < 2147483648 := by have := ha.2; omega
  exact wword_any B b l n w hn h hl hBw
theorem wwrites' (B b : Nat) (l : List UInt8) (s : ByteArray) (w : World) (h : WB B b (Lib.byteCells l) w) (hl : l.length ≤ 1000000) (hs : s.size ≤ 1000000) (hBw : B ≤ w.heap.size) :
    Calls Try.prog 29 #[.pointer (some ⟨b, 0, none⟩), .string s] w fun e w' => e = .returned (.tuple #[.int .i64 s.size, .nilIface]) ∧ WB B b (Lib.byteCells (l ++ s.data.toList)) w' ∧ Below B w w' ∧ Others b w w' := by
  refine (wwrites B b (Lib.byteCells l) s w h (by rw [byteCells_len]; omega) hBw).mono ?_
  rintro e w' ⟨rfl, h1, h2, h3⟩
  rw [strCells_eq, byteCells_app] at h1
  exact ⟨rfl, h1, h2, h3⟩
theorem idx_arr (f : Nat → Nat) (k : Nat) (hk : k < 256) (w : World) :
    (Instr.index 64 (.agg (Array.ofFn (n := 256) fun j => .int .i64 (f j.val : Nat))) (.int .i64 k)).run Try.prog w = .ok (.int .i64 (f k : Nat)) w := by
  have hp : (Array.ofFn (n := 256) fun j => Value.int .i64 (f j.val : Nat))[k]? = some (.int .i64 (f k : Nat)) := by
    rw [Array.getElem?_eq_getElem (by rw [Array.size_ofFn]; exact hk), Array.getElem_ofFn]
  have hs : (sizeOf 3).run Try.prog w = .ok 1 w := by kernel_rfl
  have hi : (0 : Int) ≤ (k : Int) ∧ (k : Int) < (256 : Nat) := by omega
  have hpp := run_part_plain (P := Try.prog) w (e := 3) (by kernel_rfl) hp
  simp only [Instr.index, asIntOf, Sem.run_bind, Sem.run_pure, Result.andThen_ok, run_underlying (P := Try.prog) (t := 64) (d := .array 256 3) (by kernel_rfl)]
  rw [if_pos hi]
  simp only [Sem.run_bind, hs, Result.andThen_ok, Int.toNat_natCast, Nat.mul_one]
  exact hpp

set_option maxHeartbeats 4000000 in
theorem write_any (v : Value) (l : List Slt) (w : World) (h : Slots w w.heap.size v l) (hz : ∀ x ∈ l, x.k.size ≤ 9223372036854775807) :
    Calls Try.prog 10 #[v] w fun e w' => e = .returned (.string (writeB l)) ∧ Below w.heap.size w w' := by
  have HF := Lib.hid (fun W (hs : Slots W W.heap.size v l) => fit_any v l W hs hz)
  have HV := Lib.hid h
  cases hf : fitP l with
  | false =>
    have hr : writeB l = ⟨#[]⟩ := by unfold writeB; rw [hf]; rfl
    have HR := Lib.hid hr
    rw [hf] at HF
    rw [HR.out]
    clear hf hr h
    go_enter Try.func10, Try.ntmps10
    go_wp2_with (go_at_call 28; refine Calls.mono (HF.out _ HV.out) ?_; rintro e w1 ⟨rfl, hB1⟩)
    go_ret
    exact ⟨rfl, hB1⟩
  | true =>
    rw [hf] at HF
    obtain ⟨r, hr⟩ : ∃ r, r = writeB l := ⟨_, rfl⟩
    rw [← hr]
    have HR : Hid (r = bodyB l ++ crcB (crcN (bodyB l))) := Lib.hid (by rw [hr]; unfold writeB; rw [hf]; rfl)
    have HAT := Lib.hid (fun x (hx : x ∈ l) => fit_at hf hx)
    have HLE := Lib.hid (fit_len hf)
    have h4 := fit_len hf
    obtain ⟨A, c, rfl, hc1, hc2, hR⟩ := h
    have HROW := Lib.hid hR
    have HFAN := Lib.hid (fun W (hs : Slots W W.heap.size (.slice A l.length c) l) => fan_any _ l W hs (fun x hx => (HAT.out x hx).1) HLE.out)
    obtain ⟨cs, hcs⟩ : ∃ cs : Array Value, cs = Array.ofFn (n := 256) fun j => .int .i64 (fanN l j.val : Nat) := ⟨_, rfl⟩
    rw [← hcs] at HFAN
    have HIX : Hid (∀ (k : Nat), k < 256 → ∀ W, (Instr.index 64 (.agg cs) (.int .i64 k)).run Try.prog W = .ok (.int .i64 (fanN l k : Nat)) W) := Lib.hid (fun k hk W => by rw [hcs]; exact idx_arr (fanN l) k hk W)
    clear hf hr hR hcs hc1 hc2
    go_enter Try.func10, Try.ntmps10
    go_wp2_with (first
      | (go_at_call 28
         refine Calls.mono (HF.out _ HV.out) ?_
         rintro e w1 ⟨rfl, hB1⟩
         have HB1 := Lib.hid hB1
         have hs1 := hB1.size
         clear hB1)
      | (go_at_call 29
         refine Calls.mono (wwrites' w1.heap.size w1.heap.size [] _ _ (Lib.IsBuilderF.of (Lib.fresh_isBuilder 59 5 w1)) (by simp) (by decide) (by simp)) ?_
         rintro e w2 ⟨rfl, hw2, hB2, _⟩
         have HW2 : Hid (WB w1.heap.size w1.heap.size (Lib.byteCells (magicL ++ fansL l 0)) w2) := Lib.hid hw2
         have HB2 := Lib.hid (((Below.refl w1.heap.size w1).alloc (Nat.le_refl _) _).trans hB2)
         have hs2 := HB2.out.size
         clear hw2 hB2)
      | (go_at_call 30
         refine Calls.mono (HFAN.out _ ((HV.out.on HB1.out).on HB2.out)) ?_
         rintro e w3 ⟨rfl, hB3⟩
         have HW3 := Lib.hid (wb_below HW2.out hB3)
         have HB3 := Lib.hid (HB2.out.trans (hB3.mono hs2))
         have hs3 := HB3.out.size
         clear hB3))
    go_loopw [5, 15] (fun _ q wr => ∃ k : Nat, q = .int .i64 k ∧ k ≤ 256 ∧ Hid (WB w1.heap.size w1.heap.size (Lib.byteCells (magicL ++ fansL l k)) wr) ∧ Hid (Below w1.heap.size w1 wr)) (fun _ q _ => 257 - (intOf q).toNat)
    case atStart => exact ⟨0, rfl, by omega, HW3, HB3⟩
    case round =>
      obtain ⟨k, rfl, hk, hW, hB⟩ := hrel
      by_cases hlt : k < 256
      · have hix := HIX.out k hlt
        have k1 : (k : Int) < 256 := by omega
        have hcount : fanN l k < 2147483648 := by have := fanN_le l k; omega
        go_wp2_with (go_at_call 31
                     refine Calls.mono (wword_any w1.heap.size w1.heap.size (magicL ++ fansL l k) (fanN l k) _ hcount hW.out (by rw [List.length_append, fansL_len]; show 4 + _ ≤ _; omega) hB.out.size) ?_
                     rintro e w4 ⟨rfl, hw4, hB4, _⟩
                     have HW4 : Hid (WB w1.heap.size w1.heap.size (Lib.byteCells (magicL ++ fansL l (k + 1))) w4) := Lib.hid (by rw [fansL_succ, ← List.append_assoc]; exact hw4)
                     have HB4 := Lib.hid (hB.out.trans hB4)
                     clear hw4 hB4)
        go_roundw
        case rel => exact ⟨k + 1, by go_num, by omega, HW4, HB4⟩
        case measure => simp [intOf]; omega
      · have k1 : ((k : Int) < 256) = False := by simp; omega
        have HW5 : Hid (WB w1.heap.size w1.heap.size (Lib.byteCells (magicL ++ fansL l 256 ++ entsL (l.take 0))) wr) := Lib.hid (by
          have h := hW.out
          rw [show k = 256 by omega] at h
          rw [show entsL (l.take 0) = [] from rfl, List.append_nil]
          exact h)
        clear hW
        go_wp2_with fail
        go_loopw [7, 23] (fun _ q wq => ∃ j : Nat, q = .int .i64 j ∧ j ≤ l.length ∧ Hid (WB w1.heap.size w1.heap.size (Lib.byteCells (magicL ++ fansL l 256 ++ entsL (l.take j))) wq) ∧ Hid (Below w1.heap.size w1 wq)) (fun _ q _ => l.length + 1 - (intOf q).toNat)
        case atStart => exact ⟨0, rfl, Nat.zero_le _, HW5, hB⟩
        case round =>
          obtain ⟨j, rfl, hj, hW, hB⟩ := hrel
          have HPL : Hid ((magicL ++ fansL l 256 ++ entsL (l.take j)).length = 1028 + 40 * j) := Lib.hid (by
            rw [List.length_append, List.length_append, fansL_len, entsL_len _ (fun x hx => (HAT.out x (List.mem_of_mem_take hx)).1), List.length_take, Nat.min_eq_left hj]
            rfl)
          by_cases hlj : j < l.length
          · obtain ⟨x, hx⟩ : ∃ x, l[j]? = some x := ⟨l[j], List.getElem?_eq_getElem hlj⟩
            obtain ⟨bb, o, rfl, hb, q0, q1, q2⟩ := row_slot HROW.out hx
            have hbb : bb < w1.heap.size := Nat.lt_of_lt_of_le hb HB1.out.size
            have p0 := (hB.out.cell (p := ⟨bb, o + j * 3, none⟩) hbb).trans ((HB1.out.cell (p := ⟨bb, o + j * 3, none⟩) hb).trans q0)
            have p1 := (hB.out.cell (p := ⟨bb, o + j * 3 + 1, none⟩) hbb).trans ((HB1.out.cell (p := ⟨bb, o + j * 3 + 1, none⟩) hb).trans q1)
            have p2 := (hB.out.cell (p := ⟨bb, o + j * 3 + 2, none⟩) hbb).trans ((HB1.out.cell (p := ⟨bb, o + j * 3 + 2, none⟩) hb).trans q2)
            have HXA := Lib.hid (HAT.out x (List.mem_of_getElem? hx))
            have i1 : (j : Int) < (l.length : Int) := by omega
            have i0 : (0 : Int) ≤ (j : Int) := by omega
            have HX := Lib.hid hx
            have hlb : bb < wr.heap.size := Nat.lt_of_lt_of_le hbb hB.out.size
            obtain ⟨pl, hpl⟩ : ∃ pl, pl = magicL ++ fansL l 256 ++ entsL (l.take j) := ⟨_, rfl⟩
            have HE : Hid (magicL ++ fansL l 256 ++ entsL (l.take (j + 1)) = pl ++ x.k.data.toList ++ wordL x.a.toNat ++ wordL x.s.toNat) := Lib.hid (by
              rw [entsL_snoc hx, hpl]
              unfold entL
              simp only [List.append_assoc])
            rw [← hpl] at hW HPL
            have hWA : WB w1.heap.size w1.heap.size (Lib.byteCells pl) (wr.alloc (.cells #[.string x.k, .int .i64 x.a, .int .i64 x.s] 34)) := Lib.IsBuilderF.alloc hW.out _
            have HWA := Lib.hid hWA
            have HBA : Hid (Below w1.heap.size w1 (wr.alloc (.cells #[.string x.k, .int .i64 x.a, .int .i64 x.s] 34))) := Lib.hid (hB.out.alloc hB.out.size _)
            have hbx : BoxS (wr.alloc (.cells #[.string x.k, .int .i64 x.a, .int .i64 x.s] 34)) wr.heap.size x := heap_alloc_new wr _
            have HBX := Lib.hid hbx
            have hqb : wr.heap.size ≠ w1.heap.size := Nat.ne_of_gt (wb_lt hW.out)
            clear q0 q1 q2 hx hpl hWA hbx
            go_wp2_with (first
              | (go_at_call 29
                 refine Calls.mono (wwrites' w1.heap.size w1.heap.size pl x.k _ HWA.out (by have := HPL.out; omega) (by have := HXA.out.1; omega) HBA.out.size) ?_
                 rintro e w6 ⟨rfl, hw6, hB6, hO6⟩
                 have HW6 := Lib.hid hw6
                 have HB6 := Lib.hid (HBA.out.trans hB6)
                 have HX6 := Lib.hid (HBX.out.others (by simp) hqb hO6)
                 have hlt6 : wr.heap.size < w6.heap.size := Nat.lt_of_lt_of_le (by simp) hB6.size
                 obtain ⟨g0, g1, g2⟩ := HX6.out.cells
                 clear hw6 hB6 hO6)
              | (go_at_call 31
                 have hq := HW6.out
                 refine Calls.mono (wword_int w1.heap.size w1.heap.size (pl ++ x.k.data.toList) x.a _ HXA.out.2.1 hq (by have := HPL.out; have := HXA.out.1; rw [app_len]; omega) HB6.out.size) ?_
                 rintro e w7 ⟨rfl, hw7, hB7, hO7⟩
                 have HW7 := Lib.hid hw7
                 have HB7 := Lib.hid (HB6.out.trans hB7)
                 have HX7 := Lib.hid (HX6.out.others hlt6 hqb hO7)
                 have hlt7 : wr.heap.size < w7.heap.size := Nat.lt_of_lt_of_le hlt6 hB7.size
                 clear g0 g1 g2
                 obtain ⟨g0, g1, g2⟩ := HX7.out.cells
                 clear hw7 hB7 hO7 HW6 HX6 HB6 hq)
              | (go_at_call 31
                 have hq := HW7.out
                 refine Calls.mono (wword_int w1.heap.size w1.heap.size (pl ++ x.k.data.toList ++ wordL x.a.toNat) x.s _ HXA.out.2.2 hq (by have := HPL.out; have := HXA.out.1; rw [List.length_append, app_len, wordL_len]; omega) HB7.out.size) ?_
                 rintro e w8 ⟨rfl, hw8, hB8, hO8⟩
                 have HW8 : Hid (WB w1.heap.size w1.heap.size (Lib.byteCells (magicL ++ fansL l 256 ++ entsL (l.take (j + 1)))) w8) := Lib.hid (by rw [HE.out]; exact hw8)
                 have HB8 := Lib.hid (HB7.out.trans hB8)
                 clear hw8 hB8 hO8 hq))
            go_roundw
            case rel => exact ⟨j + 1, by go_num, by omega, HW8, HB8⟩
            case measure => simp [intOf]; omega
          · obtain rfl : j = l.length := by omega
            rw [List.take_length] at hW HPL
            have hW' : Hid (WB w1.heap.size w1.heap.size (Lib.byteCells (bodyL l)) wr) := hW
            have HPL' : Hid ((bodyL l).length = 1028 + 40 * l.length) := HPL
            clear hW HPL
            have hsz : (bodyB l).size ≤ 9223372036854775807 := by
              show (bodyL l).length ≤ _
              have := HPL'.out
              omega
            have HSZ := Lib.hid hsz
            have HNE : Hid (bodyL l ≠ []) := Lib.hid (fun h => by
              have h2 := HPL'.out
              rw [h] at h2
              have h3 : ([] : List UInt8).length = 0 := rfl
              omega)
            obtain ⟨cc, hcc⟩ : ∃ cc, cc = crcN (bodyB l) := ⟨_, rfl⟩
            have hccl : cc < 4294967296 := by rw [hcc]; exact crcN_lt _
            have HSM := Lib.hid (fun W => sum_any (bodyB l) W HSZ.out)
            rw [← hcc] at HSM HR
            clear hsz hcc
            go_wp2_with (first
              | (go_at_call 34
                 have hq := hW'.out
                 refine Calls.mono (wstring w1.heap.size w1.heap.size (bodyL l) _ hq HNE.out) ?_
                 rintro e w6 ⟨rfl, hw6, hB6⟩
                 have HW6 := Lib.hid hw6
                 have HB6 := Lib.hid (hB.out.trans hB6)
                 clear hw6 hB6 hq hW')
              | (go_at_call 33
                 refine Calls.mono (HSM.out _) ?_
                 rintro e w7 ⟨rfl, hB7⟩
                 have HW7 := Lib.hid (wb_below HW6.out hB7)
                 have HB7 := Lib.hid (HB6.out.trans (hB7.mono HB6.out.size))
                 clear hB7 HW6)
              | (go_at_call 32
                 refine Calls.mono (bytes_any cc _ hccl) ?_
                 rintro e w8 ⟨rfl, hB8⟩
                 have HW8 := Lib.hid (wb_below HW7.out hB8)
                 have HB8 := Lib.hid (HB7.out.trans (hB8.mono HB7.out.size))
                 clear hB8 HW7)
              | (go_at_call 29
                 refine Calls.mono (wwrites' w1.heap.size w1.heap.size (bodyL l) (crcB cc) _ HW8.out (by have := HPL'.out; omega) (by rw [crcB_size]; omega) HB8.out.size) ?_
                 rintro e w9 ⟨rfl, hw9, hB9, _⟩
                 have HW9 := Lib.hid hw9
                 have HB9 := Lib.hid (HB8.out.trans hB9)
                 clear hw9 hB9)
              | (go_at_call 34
                 have hq := HW9.out
                 refine Calls.mono (wstring w1.heap.size w1.heap.size (bodyL l ++ (crcB cc).data.toList) _ hq (by intro h; exact HNE.out (List.append_eq_nil_iff.1 h).1)) ?_
                 rintro e wa ⟨rfl, hwa, hBa⟩
                 have HBa := Lib.hid (HB9.out.trans hBa)
                 clear hwa hBa hq))
            go_ret
            refine ⟨?_, bel HB1.out HBa.out⟩
            rw [HR.out]
            congr 2

end Go.Proofs.Ytjjenpklcbpkmaa
