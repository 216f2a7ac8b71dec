/-
  The packer: a strings.Builder that stands first in a struct with a row behind it.
-/
import Derived.Test.YtjmggbfhccdpkaaLMap
import Derived.Test.YtjmggbfhccdpkaaVPut
import Derived.Shelf.Strings.BuilderK
import Derived.Lib.UnsafeStr
namespace Go.Proofs.Ytjmggbfhccdpkaa
open Go.RowKit Go.Shelf Go.Proofs.Mem
set_option linter.unusedVariables false

theorem info_bld : (Try.prog.info? 40).map (·.size) = some 2 := by kernel_rfl

structure PkAt (w : World) (B b : Nat) (p v r : Value) (bs rs : List UInt8) : Prop where
  hB : B ≤ b
  blk : w.heap[b]? = some (.cells #[p, v, r] 42 (0, 0))
  vo : w.ownsRow B 5 1 v bs.length (Lib.byteCells bs)
  ro : w.ownsRow B 5 1 r rs.length (Lib.byteCells rs)
  ne : ∀ g, v.ownBlock = some g → r.ownBlock ≠ some g
theorem PkAt.lt {w : World} {B b : Nat} {p v r : Value} {bs rs : List UInt8} (h : PkAt w B b p v r bs rs) : b < w.heap.size := by
  rcases Nat.lt_or_ge b w.heap.size with h' | h'
  · exact h'
  · have := h.blk
    rw [Array.getElem?_eq_none h'] at this
    cases this
theorem PkAt.cells {w : World} {B b : Nat} {p v r : Value} {bs rs : List UInt8} (h : PkAt w B b p v r bs rs) :
    w.cell? ⟨b, 0, none⟩ = some p ∧ w.cell? ⟨b, 1, none⟩ = some v ∧ w.cell? ⟨b, 2, none⟩ = some r ∧ (∀ o, w.frozen? ⟨b, o, none⟩ = false) ∧ w.shape? b = some (42, 3) := by
  refine ⟨?_, ?_, ?_, fun o => Lib.frozen_of_heap h.blk o, by simp [World.shape?, h.blk]⟩
  all_goals (rw [Lib.cell_of_heap h.blk]; rfl)
theorem set_grown (w : World) (a : Addr) (x : Value) : w.grownBy (w.setCell a x) (some a.block) :=
  ⟨((Below.refl 0 w).setCell (p := a) (Nat.zero_le _) x).os, ((Below.refl 0 w).setCell (p := a) (Nat.zero_le _) x).tape, ((Below.refl 0 w).setCell (p := a) (Nat.zero_le _) x).output, by simp, fun k hk hne => Below.heap_setCell w a x k (fun e => hne (by rw [e]))⟩
/-- The packer's own block is none of its rows'. -/
theorem PkAt.apart {w : World} {B b n : Nat} {p v r x : Value} {bs rs : List UInt8} {xs : List Value} (h : PkAt w B b p v r bs rs) (hx : w.ownsRow B 5 1 x n xs) : x.ownBlock ≠ some b := by
  intro e
  obtain ⟨cs, fr, hc⟩ := own_cells hx e
  rw [h.blk] at hc
  injection hc with hc
  injection hc with _ hc
  revert hc
  decide
theorem PkAt.setAddr {w : World} {B b : Nat} {p v r : Value} {bs rs : List UInt8} (h : PkAt w B b p v r bs rs) (x : Value) : PkAt (w.setCell ⟨b, 0, none⟩ x) B b x v r bs rs :=
  ⟨h.hB, heap_setCell_same w b 0 _ _ _ h.blk, h.vo.kept (set_grown w _ x) (.inr (h.apart h.vo)), h.ro.kept (set_grown w _ x) (.inr (h.apart h.ro)), h.ne⟩
/-- The buffer has grown. -/
theorem PkAt.growV {w w1 w2 : World} {B b : Nat} {p v r v' : Value} {bs rs bs' : List UInt8} (h : PkAt w B b p v r bs rs) (h01 : Below w.heap.size w w1) (hgrow : w1.grownBy w2 v.ownBlock)
    (hown : w2.ownsRow B 5 1 v' bs'.length (Lib.byteCells bs')) (hat : v'.ownBlock = v.ownBlock ∨ v'.ownBlock = some w1.heap.size) (hBw : B ≤ w.heap.size) :
    PkAt (w2.setCell ⟨b, 1, none⟩ v') B b p v' r bs' rs ∧ Below B w (w2.setCell ⟨b, 1, none⟩ v') ∧ Oth 5 (fun q => q = b) w (w2.setCell ⟨b, 1, none⟩ v') := by
  have hb1 : w1.heap[b]? = some (.cells #[p, v, r] 42 (0, 0)) := (h01.block b h.lt).trans h.blk
  have keep1 : ∀ {x : Value} {n : Nat} {xs : List Value}, w.ownsRow B 5 1 x n xs → w1.ownsRow B 5 1 x n xs := fun hx => hx.kept (row := none) ⟨h01.os, h01.tape, h01.output, h01.size, fun k hk _ => h01.block k hk⟩ (Classical.em _)
  have h1 : PkAt w1 B b p v r bs rs := ⟨h.hB, hb1, keep1 h.vo, keep1 h.ro, h.ne⟩
  have hb2 : w2.heap[b]? = some (.cells #[p, v, r] 42 (0, 0)) := (hgrow.block b h1.lt (fun e => h1.apart h1.vo e.symm)).trans hb1
  have hne : r.ownBlock = none ∨ r.ownBlock ≠ v.ownBlock := by
    cases hr : r.ownBlock with
    | none => exact .inl rfl
    | some g => exact .inr (fun e => h.ne g e.symm hr)
  have hro2 := h1.ro.kept hgrow hne
  have h2 : PkAt w2 B b p v' r bs' rs → True := fun _ => trivial
  have hne' : ∀ g, v'.ownBlock = some g → r.ownBlock ≠ some g := by
    intro g hg hr
    rcases hat with e | e
    · exact h.ne g (e ▸ hg) hr
    · rw [e] at hg
      injection hg with hg
      obtain ⟨cs, fr, hc⟩ := own_cells h1.ro hr
      rw [← hg, Array.getElem?_eq_none (Nat.le_refl _)] at hc
      cases hc
  have apv : v'.ownBlock ≠ some b := by
    intro e
    obtain ⟨cs, fr, hc⟩ := own_cells hown e
    rw [hb2] at hc
    injection hc with hc
    injection hc with _ hc
    revert hc
    decide
  have apr : r.ownBlock ≠ some b := h.apart h.ro
  refine ⟨⟨h.hB, heap_setCell_same w2 b 1 _ _ _ hb2, hown.kept (set_grown w2 _ v') (.inr apv), hro2.kept (set_grown w2 _ v') (.inr apr), hne'⟩, ?_, ?_⟩
  · exact ((h01.mono hBw).grown hgrow (Nat.le_trans hBw h01.size) (fun k hk => (h.vo.lt k hk).1)).setCell (p := ⟨b, 1, none⟩) h.hB _
  · exact (Oth.below h01).trans ((Oth.grownRow _ h1.vo hgrow).trans (Oth.setCell _ _ w2 _ _ rfl))
/-- The row has grown. -/
theorem PkAt.growR {w w1 w2 : World} {B b : Nat} {p v r r' : Value} {bs rs rs' : List UInt8} (h : PkAt w B b p v r bs rs) (h01 : Below w.heap.size w w1) (hgrow : w1.grownBy w2 r.ownBlock)
    (hown : w2.ownsRow B 5 1 r' rs'.length (Lib.byteCells rs')) (hat : r'.ownBlock = r.ownBlock ∨ r'.ownBlock = some w1.heap.size) (hBw : B ≤ w.heap.size) :
    PkAt (w2.setCell ⟨b, 2, none⟩ r') B b p v r' bs rs' ∧ Below B w (w2.setCell ⟨b, 2, none⟩ r') ∧ Oth 5 (fun q => q = b) w (w2.setCell ⟨b, 2, none⟩ r') := by
  have hb1 : w1.heap[b]? = some (.cells #[p, v, r] 42 (0, 0)) := (h01.block b h.lt).trans h.blk
  have keep1 : ∀ {x : Value} {n : Nat} {xs : List Value}, w.ownsRow B 5 1 x n xs → w1.ownsRow B 5 1 x n xs := fun hx => hx.kept (row := none) ⟨h01.os, h01.tape, h01.output, h01.size, fun k hk _ => h01.block k hk⟩ (Classical.em _)
  have h1 : PkAt w1 B b p v r bs rs := ⟨h.hB, hb1, keep1 h.vo, keep1 h.ro, h.ne⟩
  have hb2 : w2.heap[b]? = some (.cells #[p, v, r] 42 (0, 0)) := (hgrow.block b h1.lt (fun e => h1.apart h1.ro e.symm)).trans hb1
  have hne : v.ownBlock = none ∨ v.ownBlock ≠ r.ownBlock := by
    cases hv : v.ownBlock with
    | none => exact .inl rfl
    | some g => exact .inr (fun e => h.ne g hv e.symm)
  have hvo2 := h1.vo.kept hgrow hne
  have hne' : ∀ g, v.ownBlock = some g → r'.ownBlock ≠ some g := by
    intro g hg hr
    rcases hat with e | e
    · exact h.ne g hg (e ▸ hr)
    · rw [e] at hr
      injection hr with hr
      obtain ⟨cs, fr, hc⟩ := own_cells h1.vo hg
      rw [← hr, Array.getElem?_eq_none (Nat.le_refl _)] at hc
      cases hc
  have apr : r'.ownBlock ≠ some b := by
    intro e
    obtain ⟨cs, fr, hc⟩ := own_cells hown e
    rw [hb2] at hc
    injection hc with hc
    injection hc with _ hc
    revert hc
    decide
  have apv : v.ownBlock ≠ some b := h.apart h.vo
  refine ⟨⟨h.hB, heap_setCell_same w2 b 2 _ _ _ hb2, hvo2.kept (set_grown w2 _ r') (.inr apv), hown.kept (set_grown w2 _ r') (.inr apr), hne'⟩, ?_, ?_⟩
  · exact ((h01.mono hBw).grown hgrow (Nat.le_trans hBw h01.size) (fun k hk => (h.ro.lt k hk).1)).setCell (p := ⟨b, 2, none⟩) h.hB _
  · exact (Oth.below h01).trans ((Oth.grownRow _ h1.ro hgrow).trans (Oth.setCell _ _ w2 _ _ rfl))

theorem pcc_used (b : Nat) (w : World) (h0 : w.cell? ⟨b, 0, none⟩ = some (.pointer (some ⟨b, 0, none⟩))) :
    Calls Try.prog 33 #[.pointer (some ⟨b, 0, none⟩)] w fun e w' => e = .returned (.tuple #[]) ∧ w' = w := by
  obtain ⟨j, hj, hjs⟩ := Option.map_eq_some_iff.1 info_bld
  go_enter Try.func33, Try.ntmps33
  go_wp2
  rw [Lib.run_neq_ptr_same w _ Try.underlying38 hj]
  go_wp2
  go_end0
  exact ⟨rfl, rfl⟩
theorem pcc_fresh (b : Nat) (w : World) (h0 : w.cell? ⟨b, 0, none⟩ = some (.pointer none)) (hsh : w.shape? b = some (42, 3)) (hfz : w.frozen? ⟨b, 0, none⟩ = false) :
    Calls Try.prog 33 #[.pointer (some ⟨b, 0, none⟩)] w fun e w' => e = .returned (.tuple #[]) ∧ w' = w.setCell ⟨b, 0, none⟩ (.pointer (some ⟨b, 0, none⟩)) := by
  obtain ⟨j, hj, hjs⟩ := Option.map_eq_some_iff.1 info_bld
  go_enter Try.func33, Try.ntmps33
  go_wp2
  rw [Lib.run_to_unsafe w ⟨b, 0, none⟩ Try.underlying38 Try.underlying73 hj (by rw [hjs]; decide) hsh (Nat.zero_lt_succ 2)]
  simp only [Result.andThen]
  rw [Oper.upon_value]
  go_wp2
  rw [run_callFunc_extern (Try.func35) (by kernel_rfl) (by kernel_rfl) (by kernel_rfl) (e := Extern.AbiNoEscape.same) (by kernel_rfl)]
  rw [Lib.run_noEscape]
  simp only [Result.andThen]
  rw [Oper.upon_value]
  go_wp2
  rw [Lib.run_from_unsafe w ⟨b, 0, none⟩ Try.underlying73 Try.underlying38 hj hsh (by kernel_rfl)]
  simp only [Result.andThen]
  rw [Oper.upon_value]
  go_wp2
  go_end0
  exact ⟨rfl, rfl⟩
def addrOk (b : Nat) (p : Value) : Prop := p = .pointer none ∨ p = .pointer (some ⟨b, 0, none⟩)
theorem pcc (B b : Nat) (p v r : Value) (bs rs : List UInt8) (w : World) (h : PkAt w B b p v r bs rs) (hp : addrOk b p) :
    Calls Try.prog 33 #[.pointer (some ⟨b, 0, none⟩)] w fun e w' => e = .returned (.tuple #[]) ∧ PkAt w' B b (.pointer (some ⟨b, 0, none⟩)) v r bs rs ∧ Below B w w' ∧ Oth 5 (fun q => q = b) w w' := by
  obtain ⟨c0, c1, c2, cf, csh⟩ := h.cells
  rcases hp with rfl | rfl
  · refine (pcc_fresh b w c0 csh (cf 0)).mono ?_
    rintro e w' ⟨rfl, rfl⟩
    exact ⟨rfl, h.setAddr _, (Below.refl B w).setCell (p := ⟨b, 0, none⟩) h.hB _, Oth.setCell _ _ w _ _ rfl⟩
  · refine (pcc_used b w c0).mono ?_
    rintro e w' ⟨rfl, rfl⟩
    exact ⟨rfl, h, Below.refl B _, Oth.refl _ _ _⟩

set_option maxHeartbeats 1000000 in
theorem pwrite (B b : Nat) (p v r : Value) (bs rs : List UInt8) (c : Nat) (w : World) (h : PkAt w B b p v r bs rs) (hp : addrOk b p) (hc : c < 256) (hlen : bs.length ≤ 1000000) (hBw : B ≤ w.heap.size) :
    Calls Try.prog 25 #[.pointer (some ⟨b, 0, none⟩), .int .u8 (c : Nat)] w fun e w' => e = .returned .nilIface ∧ (∃ v', PkAt w' B b (.pointer (some ⟨b, 0, none⟩)) v' r (bs ++ [UInt8.ofNat c]) rs) ∧ Below B w w' ∧ Oth 5 (fun q => q = b) w w' := by
  obtain ⟨i0, hi, hz0, hz1, hz2⟩ := info_parts Try.infoU
  have HP := Lib.hid h
  clear h
  go_enter Try.func25, Try.ntmps25
  go_wp2_with (go_at_call 33; refine (pcc B b p v r bs rs _ HP.out hp).mono ?_)
  rintro e w1 ⟨rfl, h1, hb1, ho1⟩
  have HP1 := Lib.hid h1
  have HB1 := Lib.hid hb1
  have HO1 := Lib.hid ho1
  obtain ⟨c0, c1, c2, cf, csh⟩ := h1.cells
  have hlt := h1.lt
  clear h1 hb1 ho1
  go_wp2_with (at_builtin
               refine wpList_append_row _ rfl _ _ 26 rfl B 5 i0 (.int .u8 0) 1 Try.underlying26 hi hz0 hz1 hz2 rfl _ bs.length (Lib.byteCells bs) rfl (HP1.out.vo.alloc _) (w1.heap.size + 1) (some ⟨w1.heap.size, 0, none⟩) 1 1 [.int .u8 (c : Nat)] rfl rfl (by exact Row.new w1 #[.int .u8 (c : Nat)] 5) (by intro u hu; simp at hu; subst hu; rfl) (by unfold maxLen; omega) (by omega) (by have := HB1.out.size; simp; omega) ?_
               intro v' w2 hown hgrow hat
               obtain ⟨A2, m2, k2, rfl⟩ := own_slice hown
               rw [byteCells_snoc bs c hc] at hown
               have hg := HP1.out.growV (bs' := bs ++ [UInt8.ofNat c]) ((Below.refl _ _).alloc (Nat.le_refl _) (.cells #[.int .u8 (c : Nat)] 5)) hgrow (by rw [List.length_append]; exact hown) hat (by have := HB1.out.size; omega)
               have HG := Lib.hid hg
               have hb2 : w2.heap[b]? = some (.cells #[.pointer (some ⟨b, 0, none⟩), v, r] 42 (0, 0)) := (hgrow.block b (by simp; omega) (fun e => HP1.out.apart HP1.out.vo e.symm)).trans ((Lib.alloc_old w1 _ b hlt).trans HP1.out.blk)
               have d1 : w2.cell? ⟨b, 1, none⟩ = some v := by rw [Lib.cell_of_heap hb2]; rfl
               have f1 : w2.frozen? ⟨b, 1, none⟩ = false := Lib.frozen_of_heap hb2 1
               clear hown hgrow hat hg hb2)
  go_ret
  exact ⟨rfl, ⟨_, HG.out.1⟩, HB1.out.trans HG.out.2.1, HO1.out.trans HG.out.2.2⟩

/-- append(v, s...), s a text: where the new row lies. -/
theorem run_append_str_at (w : World) (base : Nat) (ty : TypeId) (i : TypeInfo) (hi : Try.prog.info? 5 = some i) (hz : i.zero = some (.int .u8 0)) (hsize : i.size = 1) (hby : i.bytes = 1)
    (v : Value) (n : Nat) (xs : List Value) (hown : w.ownsRow base 5 1 v n xs) (s : ByteArray) (h63 : n + s.size ≤ 1000000) (hbase : base ≤ w.heap.size) :
    ∃ v' w', (Builtin.append_ #[26, 9] ty #[v, .string s]).run Try.prog w = .ok v' w' ∧ w'.ownsRow base 5 1 v' (n + s.size) (xs ++ Lib.strCells s) ∧ w.grownBy w' v.ownBlock ∧ (v'.ownBlock = v.ownBlock ∨ v'.ownBlock = some w.heap.size) := by
  obtain ⟨v', w', hr, h2, h3, h4⟩ := Lib.run_append_own_string (P := Try.prog) w base 26 9 ty 5 i Try.underlying26 Try.underlying9 hi hz hsize hby v n xs hown s (by unfold maxLen; omega) (by omega) hbase
  refine ⟨v', w', hr, h2, h3, ?_⟩
  rcases hown.2 with ⟨rfl, rfl⟩ | ⟨g, cap, cur, rfl, hbg, hg, hnc, hcm, hcs, htake⟩
  · by_cases hm : s.size = 0
    · exact .inl (by rw [h4.2 ⟨rfl, hm⟩])
    · have hr2 := run_append_nil_string (P := Try.prog) w 26 9 ty 5 i (.int .u8 0) Try.underlying26 Try.underlying9 hi hz s (by omega) (by omega) (by rw [hby]; omega)
      rw [hr2] at hr
      injection hr with hr _
      exact .inr (by rw [← hr]; rfl)
  · by_cases hroom : n + s.size ≤ cap
    · have hr2 := Lib.run_append_room_string (P := Try.prog) w 26 9 ty 5 i Try.underlying26 Try.underlying9 hi hsize g n cap cur hg s hroom (by rw [hcs]; omega)
      rw [hr2] at hr
      injection hr with hr _
      exact .inl (by rw [← hr]; rfl)
    · have hxl : xs.length = n := by simpa using hown.1
      have hr2 := Lib.run_append_grow_string (P := Try.prog) w 26 9 ty 5 i (.int .u8 0) Try.underlying26 Try.underlying9 hi hz ⟨g, 0, none⟩ n cap xs (by rw [hsize]; simpa using hxl) (hown.cells (g := g) rfl) s (by omega) (by omega) (by rw [hby]; exact growslice_fits (by omega) (by omega))
      rw [hr2] at hr
      injection hr with hr _
      exact .inr (by rw [← hr]; rfl)
theorem wpList_append_str_at (w : World) {ops : Array Oper} {rest : List Oper} {op : Oper} {a : Act} {Q : Exit → Act → World → Prop} (hgd : op.guard = none) (sl x : Operand)
    (ho : op.op = .call { callee := .builtin .append, args := #[sl, x], argTypes := #[26, 9] })
    (base : Nat) (i : TypeInfo) (hi : Try.prog.info? 5 = some i) (hz : i.zero = some (.int .u8 0)) (hsize : i.size = 1) (hby : i.bytes = 1)
    (v : Value) (n : Nat) (xs : List Value) (hs : a.eval sl = v) (hown : w.ownsRow base 5 1 v n xs) (s : ByteArray) (hx : a.eval x = .string s) (h63 : n + s.size ≤ 1000000) (hbase : base ≤ w.heap.size)
    (h : ∀ v' w', w'.ownsRow base 5 1 v' (n + s.size) (xs ++ Lib.strCells s) → w.grownBy w' v.ownBlock → (v'.ownBlock = v.ownBlock ∨ v'.ownBlock = some w.heap.size) → wpList Try.prog ops Q rest (a.put op.dst v') w') : wpList Try.prog ops Q (op :: rest) a w := by
  refine wpList_plain hgd fun K hK => ?_
  obtain ⟨v', w', hrun, h2, h3, h4⟩ := run_append_str_at w base op.type i hi hz hsize hby v n xs hown s h63 hbase
  unfold Oper.wp execOp
  simp only [ho, resolve, invoke, builtin, Sem.run_bind, Sem.run_pure, Result.andThen_ok, List.map_toArray, List.map_cons, List.map_nil, hs, hx, hrun]
  exact hK _ _ (h v' w' h2 h3 h4)
theorem strCells_eq (s : ByteArray) : Lib.strCells s = Lib.byteCells s.data.toList := by unfold Lib.strCells Lib.byteCells; first | rfl | simp
theorem byteCells_app (a b : List UInt8) : Lib.byteCells a ++ Lib.byteCells b = Lib.byteCells (a ++ b) := by unfold Lib.byteCells; rw [List.map_append]

set_option maxHeartbeats 1000000 in
theorem pwrites (B b : Nat) (p v r : Value) (bs rs : List UInt8) (s : ByteArray) (w : World) (h : PkAt w B b p v r bs rs) (hp : addrOk b p) (hlen : bs.length + s.size ≤ 1000000) (hBw : B ≤ w.heap.size) :
    Calls Try.prog 26 #[.pointer (some ⟨b, 0, none⟩), .string s] w fun e w' => e = .returned (.tuple #[.int .i64 s.size, .nilIface]) ∧ (∃ v', PkAt w' B b (.pointer (some ⟨b, 0, none⟩)) v' r (bs ++ s.data.toList) rs) ∧ Below B w w' ∧ Oth 5 (fun q => q = b) w w' := by
  obtain ⟨i0, hi, hz0, hz1, hz2⟩ := info_parts Try.infoU
  have HP := Lib.hid h
  clear h
  go_enter Try.func26, Try.ntmps26
  go_wp2_with (go_at_call 33; refine (pcc B b p v r bs rs _ HP.out hp).mono ?_)
  rintro e w1 ⟨rfl, h1, hb1, ho1⟩
  have HP1 := Lib.hid h1
  have HB1 := Lib.hid hb1
  have HO1 := Lib.hid ho1
  obtain ⟨c0, c1, c2, cf, csh⟩ := h1.cells
  have hlt := h1.lt
  clear h1 hb1 ho1
  go_wp2_with (at_builtin
               refine wpList_append_str_at _ rfl _ _ rfl B i0 hi hz0 hz1 hz2 _ bs.length (Lib.byteCells bs) rfl HP1.out.vo s rfl hlen (by have := HB1.out.size; omega) ?_
               intro v' w2 hown hgrow hat
               obtain ⟨A2, m2, k2, rfl⟩ := own_slice hown
               rw [strCells_eq, byteCells_app] at hown
               have hg := HP1.out.growV (bs' := bs ++ s.data.toList) (Below.refl _ _) hgrow (by rw [List.length_append]; exact hown) hat (by have := HB1.out.size; omega)
               have HG := Lib.hid hg
               have hb2 : w2.heap[b]? = some (.cells #[.pointer (some ⟨b, 0, none⟩), v, r] 42 (0, 0)) := (hgrow.block b hlt (fun e => HP1.out.apart HP1.out.vo e.symm)).trans HP1.out.blk
               have d1 : w2.cell? ⟨b, 1, none⟩ = some v := by rw [Lib.cell_of_heap hb2]; rfl
               have f1 : w2.frozen? ⟨b, 1, none⟩ = false := Lib.frozen_of_heap hb2 1
               clear hown hgrow hat hg hb2)
  go_ret2
  exact ⟨rfl, ⟨_, HG.out.1⟩, HB1.out.trans HG.out.2.1, HO1.out.trans HG.out.2.2⟩

theorem row_own {w : World} {B n c : Nat} {A : Option Addr} {xs : List Value} (h : w.ownsRow B 5 1 (.slice A n c) n xs) : Row w w.heap.size A xs := row_of_own h

set_option maxHeartbeats 1000000 in
/-- Write: the row's own bytes. -/
theorem pwriteb (B b : Nat) (p v : Value) (A : Option Addr) (n c : Nat) (bs rs : List UInt8) (w : World) (h : PkAt w B b p v (.slice A n c) bs rs) (hp : addrOk b p) (hn : n = rs.length) (hlen : bs.length + rs.length ≤ 1000000) (hBw : B ≤ w.heap.size) :
    Calls Try.prog 28 #[.pointer (some ⟨b, 0, none⟩), .slice A n c] w fun e w' => e = .returned (.tuple #[.int .i64 n, .nilIface]) ∧ (∃ v', PkAt w' B b (.pointer (some ⟨b, 0, none⟩)) v' (.slice A n c) (bs ++ rs) rs) ∧ Below B w w' ∧ Oth 5 (fun q => q = b) w w' := by
  obtain ⟨i0, hi, hz0, hz1, hz2⟩ := info_parts Try.infoU
  have HP := Lib.hid h
  clear h
  go_enter Try.func28, Try.ntmps28
  go_wp2_with (go_at_call 33; refine (pcc B b p v (.slice A n c) bs rs _ HP.out hp).mono ?_)
  rintro e w1 ⟨rfl, h1, hb1, ho1⟩
  have HP1 := Lib.hid h1
  have HB1 := Lib.hid hb1
  have HO1 := Lib.hid ho1
  obtain ⟨c0, c1, c2, cf, csh⟩ := h1.cells
  have hlt := h1.lt
  have hro := h1.ro
  rw [← hn] at hro
  have HRO := Lib.hid (row_of_own hro)
  have HN := Lib.hid hn
  have hn2 : n ≤ 1000000 := by omega
  clear h1 hb1 ho1 hro hn
  go_wp2_with (at_builtin
               refine wpList_append_row _ rfl _ _ 26 rfl B 5 i0 (.int .u8 0) 1 Try.underlying26 hi hz0 hz1 hz2 rfl _ bs.length (Lib.byteCells bs) rfl HP1.out.vo w1.heap.size A n c (Lib.byteCells rs) rfl (by rw [byteCells_len, HN.out]) HRO.out (by intro u hu; unfold Lib.byteCells at hu; obtain ⟨y, _, rfl⟩ := List.mem_map.1 hu; rfl) (by have := HN.out; unfold maxLen; omega) (by have := HN.out; omega) (by have := HB1.out.size; omega) ?_
               intro v' w2 hown hgrow hat
               obtain ⟨A2, m2, k2, rfl⟩ := own_slice hown
               rw [byteCells_app, HN.out] at hown
               have hg := HP1.out.growV (bs' := bs ++ rs) (Below.refl _ _) hgrow (by rw [List.length_append]; exact hown) hat (by have := HB1.out.size; omega)
               have HG := Lib.hid hg
               have hb2 : w2.heap[b]? = some (.cells #[.pointer (some ⟨b, 0, none⟩), v, .slice A n c] 42 (0, 0)) := (hgrow.block b hlt (fun e => HP1.out.apart HP1.out.vo e.symm)).trans HP1.out.blk
               have d1 : w2.cell? ⟨b, 1, none⟩ = some v := by rw [Lib.cell_of_heap hb2]; rfl
               have f1 : w2.frozen? ⟨b, 1, none⟩ = false := Lib.frozen_of_heap hb2 1
               clear hown hgrow hat hg hb2)
  go_ret2
  exact ⟨rfl, ⟨_, HG.out.1⟩, HB1.out.trans HG.out.2.1, HO1.out.trans HG.out.2.2⟩

set_option maxHeartbeats 1000000 in
theorem pstring_ne (B b : Nat) (p v r : Value) (l rs : List UInt8) (w : World) (h : PkAt w B b p v r l rs) (h0 : l ≠ []) :
    Calls Try.prog 18 #[.pointer (some ⟨b, 0, none⟩)] w fun e w' => e = .returned (.string ⟨l.toArray⟩) ∧ Below B w w' := by
  obtain ⟨c0, c1', c2, cf, csh⟩ := h.cells
  have hown := h.vo
  have hl0 : l.length ≠ 0 := by simpa using h0
  obtain ⟨g, cap, cur, rfl, hbg, hg, hnc, hcm, hcs, htake⟩ : ∃ g cap cur, v = .slice (some ⟨g, 0, none⟩) l.length cap ∧ B ≤ g ∧ w.heap[g]? = some (.cells cur 5 (0, 0)) ∧ l.length ≤ cap ∧ cap ≤ maxLen ∧ cur.size = cap * 1 ∧ cur.toList.take (l.length * 1) = Lib.byteCells l := by
    rcases hown.2 with ⟨_, hz⟩ | ⟨g, cap, cur, hv, q⟩
    · exact absurd hz hl0
    · exact ⟨g, cap, cur, hv, q⟩
  have c1 : w.drew.cell? ⟨b, 1, none⟩ = some (.slice (some ⟨g, 0, none⟩) l.length cap) := c1'
  have hSD : (Builtin.unsafeSliceData_ #[26] 67 #[.slice (some ⟨g, 0, none⟩) l.length cap]).run Try.prog w.drew = .ok (.pointer (some ⟨g, 0, none⟩)) w.drew :=
    Lib.run_unsafeSliceData_row _ _ _ _ _ _ (by omega)
  have hUS : (Builtin.unsafeString_ #[67, 3] 9 #[.pointer (some ⟨g, 0, none⟩), .int .i64 l.length]).run Try.prog w.drew = .ok (.string ⟨l.toArray⟩) (w.drew.freeze ⟨g, 0, none⟩ l.length) := by
    refine Lib.run_unsafeString_row w.drew 67 3 9 5 Try.underlying67 (by kernel_rfl) g cur.size (by have hg' : w.drew.heap[g]? = some (.cells cur 5 (0, 0)) := hg; simp [World.shape?, hg']) l h0 (by omega) (by unfold maxLen at hcm; omega) ?_
    intro j x hx
    exact hown.cells (g := g) rfl j (.int .u8 x.toNat) (by simp [Lib.byteCells, hx])
  have mixed : Try.prog.follows Departure.mixedOrders = true := by kernel_rfl
  clear c1' hown hg htake
  go_enter Try.func18, Try.ntmps18
  go_wp2
  go_region_o
  all_goals (go_wp2; go_ret; exact ⟨rfl, Lib.below_freeze (Below.drew (Below.refl B w)) (p := ⟨g, 0, none⟩) hbg _⟩)
set_option maxHeartbeats 1000000 in
theorem pstring_nil (B b : Nat) (p r : Value) (rs : List UInt8) (w : World) (h : PkAt w B b p (.slice none 0 0) r [] rs) :
    Calls Try.prog 18 #[.pointer (some ⟨b, 0, none⟩)] w fun e w' => e = .returned (.string ⟨#[]⟩) ∧ Below B w w' := by
  obtain ⟨c0, c1', c2, cf, csh⟩ := h.cells
  have c1 : w.drew.cell? ⟨b, 1, none⟩ = some (.slice none 0 0) := c1'
  have hSD : (Builtin.unsafeSliceData_ #[26] 67 #[.slice none 0 0]).run Try.prog w.drew = .ok (.pointer none) w.drew := rfl
  have hUS : (Builtin.unsafeString_ #[67, 3] 9 #[.pointer none, .int .i64 0]).run Try.prog w.drew = .ok (.string ⟨#[]⟩) w.drew := Lib.run_unsafeString_none w.drew _ _ _ _
  have mixed : Try.prog.follows Departure.mixedOrders = true := by kernel_rfl
  clear c1'
  go_enter Try.func18, Try.ntmps18
  go_wp2
  go_region_o
  all_goals (go_wp2; go_ret; exact ⟨rfl, Below.drew (Below.refl B w)⟩)

/-- The packer between two calls: what is written, and the row that is not. -/
def Pk (w : World) (B b : Nat) (bs rs : List UInt8) : Prop := ∃ p v r, addrOk b p ∧ PkAt w B b p v r bs rs ∧ (bs = [] → v = .slice none 0 0)
theorem pstring_any (B b : Nat) (bs rs : List UInt8) (w : World) (h : Pk w B b bs rs) :
    Calls Try.prog 18 #[.pointer (some ⟨b, 0, none⟩)] w fun e w' => e = .returned (.string ⟨bs.toArray⟩) ∧ Below B w w' := by
  obtain ⟨p, v, r, hp, hP, hz⟩ := h
  by_cases h0 : bs = []
  · subst h0
    obtain rfl := hz rfl
    exact pstring_nil B b p r rs w hP
  · exact pstring_ne B b p v r bs rs w hP h0

end Go.Proofs.Ytjmggbfhccdpkaa
