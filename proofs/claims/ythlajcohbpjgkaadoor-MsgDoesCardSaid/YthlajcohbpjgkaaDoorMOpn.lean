/-
  Messages that came in, opened; the laid variable.
-/
import Derived.Test.YthlajcohbpjgkaaDoorMRd
import Derived.Test.YthlajcohbpjgkaaDoorShell
import Derived.Test.YthlajcohbpjgkaaDoorOpen
import Derived.Deep.Slices
import Derived.Deep.Fields
import Derived.SizedLaws
import Derived.LaidHandle
import Derived.LaidLaws
import Derived.Stop.Joined
namespace Go.Proofs.YthlajcohbpjgkaaDoor
open Go.RowKit Go.Proofs.Mem Go.ChangeShapes Go.WideShapes Go.ChangeAt
set_option linter.unusedVariables false

theorem cellsO_at (l : List ObjL) (j : Nat) : (cellsO l)[j]? = (l[j / 2]?).bind fun x => (objCells x)[j % 2]? := by
  unfold cellsO
  induction l generalizing j with
  | nil => simp
  | cons x l ih =>
    rw [List.flatMap_cons]
    have hx : (objCells x).length = 2 := rfl
    rcases Nat.lt_or_ge j 2 with h | h
    · rw [List.getElem?_append_left (by omega), Nat.div_eq_of_lt h, Nat.mod_eq_of_lt h]
      rfl
    · obtain ⟨i, rfl⟩ : ∃ i, j = i + 2 := ⟨j - 2, by omega⟩
      rw [List.getElem?_append_right (by omega), hx, Nat.add_sub_cancel, ih i, Nat.add_div_right _ (by decide), Nat.add_mod_right, List.getElem?_cons_succ]

theorem get_some {α : Type} {o : Option α} {l : List α} {i : Nat} (h : o = l[i]?) (hi : i < l.length) : ∃ x, o = some x := ⟨l[i], by rw [h, List.getElem?_eq_getElem hi]⟩

set_option maxRecDepth 100000 in
theorem open_objs {H : Type} {enc : TypeId × Value → H} {W : World} {A : Option Addr} {n c : Nat} {d : DataW H} {p : List MemPlace}
    (h : DataW.Trod enc Tryd.prog W 0 (fun _ => true) true 23 (.slice A n c) d p) :
    ∃ l : List ObjL, Objs W W.heap.size (.slice A n c) l := by
  obtain ⟨fuel, hf⟩ := h
  have hC : Tryd.prog.cellsOf 40 = 2 := by kernel_rfl
  have c4 : Tryd.prog.cellsOf 9 = 1 := by kernel_rfl
  rcases Go.Deep.open_slice Tryd.underlying23 hf with ⟨hcs, _⟩ | ⟨a, len, cap, m, n', D, Pl, hcs, _, hl, hm, hmm, _, hi⟩
  · simp [Value.cells] at hcs
    obtain ⟨rfl, rfl, rfl⟩ := hcs
    exact ⟨[], Objs.nil⟩
  · simp [Value.cells] at hcs
    obtain ⟨rfl, rfl, rfl⟩ := hcs
    have hone : ∀ i, ∃ x : ObjL, i < n → ∀ j, j < 2 → W.cell? (a.add (i * 2 + j)) = (objCells x)[j]? := by
      intro i
      by_cases hin : i < n
      · have him : i < m := by
          rw [hmm]
          split <;> omega
        obtain ⟨cs', hcc, ht⟩ := hi i him
        rw [hC] at hcc
        obtain ⟨_, hcl, hat⟩ := World.cells?_some hcc
        obtain ⟨xs, q, _, _, _, hlen, hg⟩ := DataW.trod_struct Tryd.underlying40 ht
        have hlen' : xs.length = 2 := hlen
        obtain ⟨a0, a1, rfl⟩ : ∃ a0 a1, cs' = [a0, a1] := by
          match cs', hcl with
          | [a0, a1], _ => exact ⟨_, _, rfl⟩
        obtain ⟨x0, f0⟩ := get_some (hg 0 _ rfl) (by omega)
        obtain ⟨x1, f1⟩ := get_some (hg 1 _ rfl) (by omega)
        simp [c4] at f0 f1
        obtain ⟨z0, h0, _, w0⟩ := DataW.trod_string Tryd.underlying9 f0
        obtain ⟨z1, h1, _, w1⟩ := DataW.trod_string Tryd.underlying9 f1
        simp at h0 h1
        subst h0 h1
        refine ⟨(z0, z1), fun _ j hj => ?_⟩
        rw [← Go.Deep.add_add]
        exact hat j hj
      · exact ⟨(⟨#[]⟩, ⟨#[]⟩), fun h => absurd h hin⟩
    obtain ⟨f, hf'⟩ := Classical.axiomOfChoice hone
    have hll : ((List.range n).map f).length = n := by rw [List.length_map, List.length_range]
    refine ⟨(List.range n).map f, some a, c, by rw [hll], by rw [hll]; exact hl, hm, ?_⟩
    by_cases h0 : n = 0
    · subst h0
      exact .inl rfl
    · have hc0 := hf' 0 (by omega) 0 (by omega)
      obtain ⟨b, off, spot⟩ := a
      have h1 : (⟨b, off, spot⟩ : Addr).add (0 * 2 + 0) = ⟨b, off, spot⟩ := by simp [Addr.add]
      rw [h1] at hc0
      have hsp : spot = none := World.cell?_spot (v := .string (f 0).1) hc0
      subst hsp
      have hcell : ∀ i j, i < n → j < 2 → W.cell? ⟨b, off + (i * 2 + j), none⟩ = (objCells (f i))[j]? := by
        intro i j hi' hj
        have := hf' i hi' j hj
        rw [add_plain] at this
        exact this
      refine .inr ⟨b, off, rfl, cell_lt (hcell 0 0 (by omega) (by omega)), fun j v hj => ?_⟩
      rw [cellsO_at] at hj
      have hjn : j / 2 < n := by
        rcases Nat.lt_or_ge (j / 2) n with h | h
        · exact h
        · rw [List.getElem?_eq_none (by rw [hll]; exact h)] at hj
          cases hj
      rw [List.getElem?_map, List.getElem?_range hjn] at hj
      have := hcell (j / 2) (j % 2) hjn (Nat.mod_lt _ (by decide))
      rw [show j / 2 * 2 + j % 2 = j by omega] at this
      exact this.trans hj

set_option maxRecDepth 100000 in
set_option linter.constructorNameAsVariable false in
theorem open_msg {H : Type} {enc : TypeId × Value → H} {W : World} {r : Reach} {b0 : Nat} {v : Value} {d : DataW H} {p : List MemPlace}
    (hv : Value.okWide Tryd.prog W r b0 26 v) (h : DataW.Trod enc Tryd.prog W 0 (fun _ => true) true 26 v d p) :
    ∃ (m : MsgL) (ps : List (DataW H)), MsgV W W.heap.size v m ∧ d = .agg ps ∧ ps[1]? = some (.lit (.string m.name.data.toList)) ∧ ps[2]? = some (.lit (.string m.root.data.toList)) := by
  obtain ⟨cs, rfl, hsz⟩ := okWide_struct Tryd.underlying26 hv
  obtain ⟨l⟩ := cs
  have hC : Tryd.prog.cellsOf 26 = 6 := by kernel_rfl
  have c3 : Tryd.prog.cellsOf 3 = 1 := by kernel_rfl
  have c4 : Tryd.prog.cellsOf 9 = 1 := by kernel_rfl
  have c5 : Tryd.prog.cellsOf 22 = 1 := by kernel_rfl
  have c6 : Tryd.prog.cellsOf 23 = 1 := by kernel_rfl
  have c7 : Tryd.prog.cellsOf 24 = 1 := by kernel_rfl
  obtain ⟨a0, a1, a2, a3, a4, a5, rfl⟩ : ∃ a0 a1 a2 a3 a4 a5, l = [a0, a1, a2, a3, a4, a5] := by
    have hl : l.length = 6 := by simpa using hsz.trans hC
    match l, hl with
    | [a0, a1, a2, a3, a4, a5], _ => exact ⟨_, _, _, _, _, _, rfl⟩
  obtain ⟨fuel, hf⟩ := h
  obtain ⟨xs, n, _, hx, _, hlen, hg⟩ := DataW.trod_struct Tryd.underlying26 hf
  have hlen' : xs.length = 6 := hlen
  have g1 := hg 1 _ rfl
  have g2 := hg 2 _ rfl
  obtain ⟨x0, f0⟩ := get_some (hg 0 _ rfl) (by omega)
  obtain ⟨x1, f1⟩ := get_some g1 (by omega)
  obtain ⟨x2, f2⟩ := get_some g2 (by omega)
  obtain ⟨x3, f3⟩ := get_some (hg 3 _ rfl) (by omega)
  obtain ⟨x4, f4⟩ := get_some (hg 4 _ rfl) (by omega)
  obtain ⟨x5, f5⟩ := get_some (hg 5 _ rfl) (by omega)
  rw [f1] at g1
  rw [f2] at g2
  simp [Value.cells, c3, c4, c5, c6, c7] at f0 f1 f2 f3 f4 f5
  obtain ⟨z0, h0, _, w0⟩ := DataW.trod_int Tryd.underlying3 f0
  obtain ⟨z1, h1, e1, w1⟩ := DataW.trod_string Tryd.underlying9 f1
  obtain ⟨z2, h2, e2, w2⟩ := DataW.trod_string Tryd.underlying9 f2
  obtain ⟨z5, h5, _, w5⟩ := DataW.trod_int Tryd.underlying24 f5
  simp at h0 h1 h2 h5
  subst h0 h1 h2 h5
  obtain ⟨A3, n3, k3, rfl⟩ : ∃ A n c, a3 = .slice A n c := by
    rcases Go.Deep.open_slice Tryd.underlying22 f3 with ⟨hcs, _⟩ | ⟨a, len, cap, m, n', D, Pl, hcs, _⟩
    · simp at hcs; exact ⟨_, _, _, hcs⟩
    · simp at hcs; exact ⟨_, _, _, hcs⟩
  obtain ⟨A4, n4, k4, rfl⟩ : ∃ A n c, a4 = .slice A n c := by
    rcases Go.Deep.open_slice Tryd.underlying23 f4 with ⟨hcs, _⟩ | ⟨a, len, cap, m, n', D, Pl, hcs, _⟩
    · simp at hcs; exact ⟨_, _, _, hcs⟩
    · simp at hcs; exact ⟨_, _, _, hcs⟩
  obtain ⟨ls, hn, hnc, hcm, hR, _⟩ := open_strs (A := A3) (n := n3) (c := k3) (d := x3.1) (p := x3.2) Tryd.underlying22 Tryd.underlying9 c4 ⟨_, by simpa [Value.cells] using f3⟩
  subst hn
  obtain ⟨os, hO⟩ := open_objs (A := A4) (n := n4) (c := k4) (d := x4.1) (p := x4.2) ⟨_, by simpa [Value.cells] using f4⟩
  refine ⟨⟨z0, z1, z2, ls, os, z5⟩, xs.map (·.1), ⟨_, _, rfl, ⟨A3, k3, rfl, hnc, hcm, hR⟩, hO⟩, by injection hx, ?_, ?_⟩
  · rw [List.getElem?_map, ← g1, e1]; rfl
  · rw [List.getElem?_map, ← g2, e2]; rfl

def laidL : List (String × DataW Unit) := [("errors.errorType", Rows.laid_errors_errorType)]
theorem errG : Tryd.prog.globalNamed "errors.errorType" = some 0 := by kernel_rfl
theorem errRt : (Tryd.prog.cutTypes.find? (·.1 == "internal/reflectlite.rtype")).map (·.2) = some 109 := by kernel_rfl
theorem errRow : ((List.range Tryd.prog.types.size).filter fun t => Tryd.prog.rowNamed t [101, 114, 114, 111, 114]) = [48] := by kernel_rfl
theorem errT_of_laid {W : World} (h : laidMetH Tryd.prog laidL W) : ErrT W := by
  have h' : laidMet Tryd.prog [] W ∧ handlesMet Tryd.prog laidL W := h
  obtain ⟨name, u, ty, e1, e2, e3, e4, e5⟩ := h'.2 _ (List.mem_singleton.2 rfl)
  have en : name = [101, 114, 114, 111, 114] := (Option.some.inj e1).symm
  subst en
  obtain rfl := Option.some.inj (errRt.symm.trans e2)
  have hm : ty ∈ (List.range Tryd.prog.types.size).filter fun t => Tryd.prog.rowNamed t [101, 114, 114, 111, 114] := List.mem_filter.2 ⟨List.mem_range.2 e3, e4⟩
  rw [errRow] at hm
  obtain rfl := List.mem_singleton.1 hm
  have hh : typeHandle Tryd.prog 48 = .pointer (some ⟨2, 48, none⟩) := by kernel_rfl
  rw [hh] at e5
  have hc : W.cell? ⟨0, 0, none⟩ = some (.iface 109 (.agg #[.pointer (some ⟨2, 48, none⟩)])) := by simpa using World.var?_cell errG e5 0
  exact ⟨hc, cell_lt hc⟩
noncomputable def laidWorld (os : Os) : World :=
  let w0 := World.holding Tryd.prog os ⟨#[], #[], []⟩
  { w0 with heap := w0.heap.modify 0 fun
      | .cells _ t frozen => .cells #[.iface 109 (.agg #[.pointer (some ⟨2, 48, none⟩)])] t frozen
      | o => o }
theorem laidWorld_met (os : Os) (args : Array Value) : laidMetH Tryd.prog laidL ((laidWorld os).forCall (fun _ _ => 0) ⟨#[], args, []⟩).memory :=
  laidMetH_of_parts (laidMet_nil _ _) (by kernel_rfl)

theorem msg_fields : ∃ fs, Tryd.prog.underlying 26 = some (.struct fs) ∧ (fs.toList.map (·.type))[1]? = some 9 ∧ (fs.toList.map (·.type))[2]? = some 9 := ⟨_, Tryd.underlying26, rfl, rfl⟩
/-- A message's name and root are of a machine's size. -/
theorem msg_sized {H : Type} {ts : List TypeId} {ds ps : List (DataW H)} {m : MsgL} (h : (DataW.weightsEach Tryd.prog ts ds).all (· ≤ reachBytes) = true) {j : Nat} (ht : ts[j]? = some 26) (hd : ds[j]? = some (.agg ps))
    (h1 : ps[1]? = some (.lit (.string m.name.data.toList))) (h2 : ps[2]? = some (.lit (.string m.root.data.toList))) : m.name.size ≤ 1000000000000000000 ∧ m.root.size ≤ 1000000000000000000 := by
  obtain ⟨fs, hu, t1, t2⟩ := msg_fields
  have hw : ∀ x ∈ DataW.weightsEach Tryd.prog (fs.toList.map (·.type)) ps, x ∈ DataW.weightsEach Tryd.prog ts ds := by
    intro x hx
    refine DataW.weights_mem_each ht hd x ?_
    simp only [DataW.weights, hu]
    exact hx
  have key : ∀ (i : Nat) (bs : List UInt8), (fs.toList.map (·.type))[i]? = some 9 → ps[i]? = some (.lit (.string bs)) → bs.length ≤ reachBytes := by
    intro i bs hi hp
    have := hw bs.length (DataW.weights_mem_each hi hp bs.length (by simp [DataW.weights]))
    exact of_decide_eq_true (List.all_eq_true.1 h _ this)
  have k1 := key 1 _ t1 h1
  have k2 := key 2 _ t2 h2
  unfold reachBytes at k1 k2
  rw [Array.length_toList] at k1 k2
  exact ⟨Nat.le_trans k1 (by decide), Nat.le_trans k2 (by decide)⟩

end Go.Proofs.YthlajcohbpjgkaaDoor
