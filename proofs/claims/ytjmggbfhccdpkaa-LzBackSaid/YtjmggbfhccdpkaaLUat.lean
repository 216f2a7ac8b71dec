/-
  The unpacker in memory; a row of bytes taken.
-/
import Derived.Test.YtjmggbfhccdpkaaLUnp
import Derived.Test.YtjmggbfhccdpkaaLPak
namespace Go.Proofs.Ytjmggbfhccdpkaa
open Go.RowKit Go.Shelf Go.Proofs.Mem
set_option linter.unusedVariables false

structure UpAt (w : World) (B u : Nat) (v : Value) (s : ByteArray) (out : List UInt8) : Prop where
  hB : B ≤ u
  blk : w.heap[u]? = some (.cells #[.string s, v] 54 (0, 0))
  vo : w.ownsRow B 5 1 v out.length (Lib.byteCells out)
theorem UpAt.lt {w : World} {B u : Nat} {v : Value} {s : ByteArray} {out : List UInt8} (h : UpAt w B u v s out) : u < w.heap.size := by
  rcases Nat.lt_or_ge u w.heap.size with h' | h'
  · exact h'
  · have := h.blk
    rw [Array.getElem?_eq_none h'] at this
    cases this
theorem UpAt.cells {w : World} {B u : Nat} {v : Value} {s : ByteArray} {out : List UInt8} (h : UpAt w B u v s out) :
    w.cell? ⟨u, 0, none⟩ = some (.string s) ∧ w.cell? ⟨u, 1, none⟩ = some v ∧ (∀ o, w.frozen? ⟨u, o, none⟩ = false) ∧ w.shape? u = some (54, 2) := by
  refine ⟨?_, ?_, fun o => Lib.frozen_of_heap h.blk o, by simp [World.shape?, h.blk]⟩
  all_goals (rw [Lib.cell_of_heap h.blk]; rfl)
theorem UpAt.apart {w : World} {B u n : Nat} {v x : Value} {s : ByteArray} {out : List UInt8} {xs : List Value} (h : UpAt w B u v s out) (hx : w.ownsRow B 5 1 x n xs) : x.ownBlock ≠ some u := by
  intro e
  obtain ⟨cs, fr, hc⟩ := own_cells hx e
  rw [h.blk] at hc
  injection hc with hc
  injection hc with _ hc
  revert hc
  decide
theorem UpAt.drew {w : World} {B u : Nat} {v : Value} {s : ByteArray} {out : List UInt8} (h : UpAt w B u v s out) : UpAt w.drew B u v s out := ⟨h.hB, h.blk, h.vo⟩
theorem UpAt.below {w w' : World} {B u : Nat} {v : Value} {s : ByteArray} {out : List UInt8} (h : UpAt w B u v s out) (hb : Below w.heap.size w w') : UpAt w' B u v s out :=
  ⟨h.hB, (hb.block u h.lt).trans h.blk, h.vo.kept (row := none) ⟨hb.os, hb.tape, hb.output, hb.size, fun k hk _ => hb.block k hk⟩ (Classical.em _)⟩
theorem UpAt.setS {w : World} {B u : Nat} {v : Value} {s : ByteArray} {out : List UInt8} (h : UpAt w B u v s out) (s' : ByteArray) : UpAt (w.setCell ⟨u, 0, none⟩ (.string s')) B u v s' out :=
  ⟨h.hB, heap_setCell_same w u 0 _ _ _ h.blk, h.vo.kept (set_grown w _ _) (.inr (h.apart h.vo))⟩
/-- What is taken has grown. -/
theorem UpAt.growV {w w2 : World} {B u : Nat} {v v' : Value} {s : ByteArray} {out out' : List UInt8} (h : UpAt w B u v s out) (hgrow : w.grownBy w2 v.ownBlock)
    (hown : w2.ownsRow B 5 1 v' out'.length (Lib.byteCells out')) (hBw : B ≤ w.heap.size) :
    w2.heap[u]? = some (.cells #[.string s, v] 54 (0, 0)) ∧ UpAt (w2.setCell ⟨u, 1, none⟩ v') B u v' s out' ∧ Below B w (w2.setCell ⟨u, 1, none⟩ v') := by
  have hb2 : w2.heap[u]? = some (.cells #[.string s, v] 54 (0, 0)) := (hgrow.block u h.lt (fun e => h.apart h.vo e.symm)).trans h.blk
  have apv : v'.ownBlock ≠ some u := by
    intro e
    obtain ⟨cs, fr, hc⟩ := own_cells hown e
    rw [hb2] at hc
    injection hc with hc
    injection hc with _ hc
    revert hc
    decide
  refine ⟨hb2, ⟨h.hB, heap_setCell_same w2 u 1 _ _ _ hb2, hown.kept (set_grown w2 _ v') (.inr apv)⟩, ?_⟩
  exact (((Below.refl w.heap.size w).mono hBw).grown hgrow hBw (fun k hk => (h.vo.lt k hk).1)).setCell (p := ⟨u, 1, none⟩) h.hB _
def Up (w : World) (B u : Nat) (s : ByteArray) (out : List UInt8) : Prop := ∃ v, UpAt w B u v s out
theorem own_len {w : World} {b n : Nat} {e : TypeId} {size : Nat} {v : Value} {xs : List Value} (h : w.ownsRow b e size v n xs) : ∃ A c, v = .slice A n c := by
  rcases h.2 with ⟨rfl, rfl⟩ | ⟨g, cap, cur, rfl, _⟩
  · exact ⟨_, _, rfl⟩
  · exact ⟨_, _, rfl⟩
/-- A text put behind a row of bytes, as one step of a region that draws. -/
theorem step_append_str (w : World) {ops : Array Oper} {o : Oper} {a : Act} {K : Act → World → Prop} {Q : Exit → Act → World → Prop} {E : Prop} (hg : o.guard = none) (sl x : Operand)
    (ho : o.op = .call { callee := .builtin .append, args := #[sl, x], argTypes := #[26, 9] })
    (base : Nat) (i : TypeInfo) (hi : Try.prog.info? 5 = some i) (hz : i.zero = some (.int .u8 0)) (hsize : i.size = 1) (hby : i.bytes = 1)
    (v : Value) (n : Nat) (xs : List Value) (hs : a.eval sl = v) (hown : w.ownsRow base 5 1 v n xs) (s : ByteArray) (hx : a.eval x = .string s) (h63 : n + s.size ≤ 1000000) (hbase : base ≤ w.heap.size)
    (h : ∀ v' w', w'.ownsRow base 5 1 v' (n + s.size) (xs ++ Lib.strCells s) → w.grownBy w' v.ownBlock → K (a.put o.dst v') w') :
    if Region.wanted o (yielded ops a.tmps) = true then Oper.wp Try.prog o a w K Q else E := by
  have hw : Region.wanted o (yielded ops a.tmps) = true := by simp [Region.wanted, hg]
  rw [if_pos hw]
  obtain ⟨v', w', hrun, h2, h3, h4⟩ := run_append_str_at w base o.type i hi hz hsize hby v n xs hown s h63 hbase
  unfold Oper.wp execOp
  simp only [ho, resolve, invoke, builtin, Sem.run_bind, Sem.run_pure, Result.andThen_ok, List.map_toArray, List.map_cons, List.map_nil, hs, hx, hrun]
  exact h v' w' h2 h3

def UpQ (w : World) (B u : Nat) (s : ByteArray) (out : List UInt8) (e : Ending) (w' : World) : Prop := e = .returned (.int .i64 0) ∧ Up w' B u s out ∧ Below B w w'

set_option maxHeartbeats 2000000 in
theorem urow_any (w : World) (B u n : Nat) (s : ByteArray) (out : List UInt8) (h : Up w B u s out) (hn : n ≤ s.size) (hn8 : n ≤ 128) (hlen : out.length ≤ 900000) (hBw : B ≤ w.heap.size) (hs : s.size ≤ 100000) :
    Calls Try.prog 30 #[.pointer (some ⟨u, 0, none⟩), .int .i64 (n : Nat)] w (UpQ w B u (s.extract n s.size) (out ++ (s.extract 0 n).data.toList)) := by
  obtain ⟨i0, hi, hz0, hz1, hz2⟩ := info_parts Try.infoU
  obtain ⟨v, hP⟩ := h
  obtain ⟨A, c, rfl⟩ := own_len hP.vo
  obtain ⟨c0, c1, cf, csh⟩ := hP.cells
  have HP := Lib.hid hP.drew
  have hlt := hP.lt
  obtain ⟨out2, ho2⟩ : ∃ l, l = out ++ (s.extract 0 n).data.toList := ⟨_, rfl⟩
  rw [← ho2]
  have HO := Lib.hid ho2
  have HEX : Hid (out.length + (s.extract 0 n).size = out2.length) := Lib.hid (by rw [ho2, List.length_append, Array.length_toList]; rfl)
  obtain ⟨s2, hs2⟩ : ∃ x, x = s.extract n s.size := ⟨_, rfl⟩
  rw [← hs2]
  have hs2' := hs2.symm
  have hBu : B ≤ u := hP.hB
  clear ho2 hs2
  have d1 : ¬ (s.size : Int) < (n : Int) := by omega
  have d2 : (n : Int) ≤ (s.size : Int) := by omega
  have hex : (s.extract 0 n).size = n := by rw [ByteArray.size_extract]; omega
  have hh63 : out.length + (s.extract 0 n).size ≤ 1000000 := by omega
  have hBd : B ≤ w.drew.heap.size := hBw
  have k0 : w.drew.cell? ⟨u, 0, none⟩ = some (.string s) := c0
  have k1 : w.drew.cell? ⟨u, 1, none⟩ = some (.slice A out.length c) := c1
  clear hP
  go_enter Try.func30, Try.ntmps30
  go_wp2_with fail
  go_region_law
    ((refine step_append_str _ rfl _ _ rfl B i0 hi hz0 hz1 hz2 _ out.length (Lib.byteCells out) rfl HP.out.vo (s.extract 0 n) rfl hh63 hBd ?_
      intro v' w2 hown hgrow
      rw [strCells_eq, byteCells_app, HEX.out, ← HO.out] at hown
      have hg := HP.out.growV (out' := out2) hgrow hown hBd
      have e0 : w2.cell? ⟨u, 0, none⟩ = some (.string s) := by rw [Lib.cell_of_heap hg.1]; rfl
      have e1 : w2.cell? ⟨u, 1, none⟩ = some (.slice A out.length c) := by rw [Lib.cell_of_heap hg.1]; rfl
      have ef := Lib.frozen_of_heap hg.1
      obtain ⟨A2, c2, rfl⟩ := own_len hown
      have HG := Lib.hid hg.2
      clear hown hgrow hg))
  all_goals (go_wp2_with fail)
  all_goals go_ret
  all_goals exact ⟨rfl, ⟨_, HG.out.1.setS s2⟩, ((Below.refl B w).drew.trans HG.out.2).setCell (p := ⟨u, 0, none⟩) hBu _⟩

end Go.Proofs.Ytjmggbfhccdpkaa
