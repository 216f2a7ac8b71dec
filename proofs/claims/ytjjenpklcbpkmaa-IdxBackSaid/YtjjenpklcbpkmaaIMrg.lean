/-
  Two lists that rise in one: plain laws; the tail of a slice; a slice of slots appended; the program's loop.
-/
import Derived.Test.YtjjenpklcbpkmaaIUnd
import Derived.Deep.RegionHeld3
import Derived.Deep.AppendLies
namespace Go.Proofs.Ytjjenpklcbpkmaa
open Go.RowKit Go.Proofs.Mem
set_option linter.unusedVariables false

def mergeL : List Slt → List Slt → List Slt
  | [], b => b
  | x :: a, [] => x :: a
  | x :: a, y :: b => if ltB y.k x.k then y :: mergeL (x :: a) b else if ltB x.k y.k then x :: mergeL a (y :: b) else mergeL (x :: a) b
termination_by a b => a.length + b.length
theorem mergeL_nil (a : List Slt) : mergeL a [] = a := by cases a <;> simp [mergeL]
theorem mergeL_nil' (b : List Slt) : mergeL [] b = b := by simp [mergeL]
theorem mergeL_y {x y : Slt} {a b : List Slt} (h : ltB y.k x.k = true) : mergeL (x :: a) (y :: b) = y :: mergeL (x :: a) b := by rw [mergeL, if_pos h]
theorem mergeL_x {x y : Slt} {a b : List Slt} (h : ltB x.k y.k = true) : mergeL (x :: a) (y :: b) = x :: mergeL a (y :: b) := by
  rw [mergeL, if_neg (by rw [ltB_asymm h]; decide), if_pos h]
theorem mergeL_e {x y : Slt} {a b : List Slt} (h : ltB y.k x.k = false) (h2 : ltB x.k y.k = false) : mergeL (x :: a) (y :: b) = mergeL (x :: a) b := by
  rw [mergeL, if_neg (by rw [h]; decide), if_neg (by rw [h2]; decide)]
theorem mergeL_len : ∀ (a b : List Slt), (mergeL a b).length ≤ a.length + b.length
  | [], b => by rw [mergeL_nil']; simp
  | x :: a, [] => by rw [mergeL_nil]; simp
  | x :: a, y :: b => by
    rw [mergeL]
    have h1 := mergeL_len (x :: a) b
    have h2 := mergeL_len a (y :: b)
    simp only [List.length_cons] at *
    split
    · simp only [List.length_cons]; omega
    · split
      · simp only [List.length_cons]; omega
      · omega
termination_by a b => a.length + b.length
theorem mergeL_mem : ∀ (a b : List Slt), ∀ x ∈ mergeL a b, x ∈ a ∨ x ∈ b
  | [], b, z, h => by rw [mergeL_nil'] at h; exact .inr h
  | x :: a, [], z, h => by rw [mergeL_nil] at h; exact .inl h
  | x :: a, y :: b, z, h => by
    have h1 := mergeL_mem (x :: a) b
    have h2 := mergeL_mem a (y :: b)
    rw [mergeL] at h
    split at h
    · rcases List.mem_cons.1 h with rfl | h
      · exact .inr List.mem_cons_self
      · rcases h1 z h with h | h
        · exact .inl h
        · exact .inr (List.mem_cons_of_mem _ h)
    · split at h
      · rcases List.mem_cons.1 h with rfl | h
        · exact .inl List.mem_cons_self
        · rcases h2 z h with h | h
          · exact .inl (List.mem_cons_of_mem _ h)
          · exact .inr h
      · rcases h1 z h with h | h
        · exact .inl h
        · exact .inr (List.mem_cons_of_mem _ h)
termination_by a b => a.length + b.length

def lenV : Value → Nat
  | .slice _ n _ => n
  | _ => 0
/-- The tail of a slice of slots, as the walk leaves it. -/
theorem slots_tail {w : World} {B : Nat} {A : Option Addr} {c n : Nat} {x : Slt} {a : List Slt} (hn : n = (x :: a).length) (hc : (x :: a).length ≤ c) (hm : c ≤ maxLen) (hR : Row w B A (cellsL (x :: a))) :
    Slots w B (.slice (if c = 1 then A else A.map (·.add 3)) (n - 1) (c - 1)) a := by
  subst hn
  refine ⟨_, c - 1, by rw [List.length_cons, Nat.add_sub_cancel], by rw [List.length_cons] at hc; omega, by omega, ?_⟩
  obtain ⟨b, o, rfl, hb, hx⟩ := hR.at_ (by show 0 < (x.cells ++ cellsL a).length; rw [List.length_append]; show 0 < 3 + _; omega)
  by_cases h1 : c = 1
  · rw [if_pos h1]
    have : a = [] := List.eq_nil_of_length_eq_zero (by rw [List.length_cons] at hc; omega)
    subst this
    exact .inl rfl
  · rw [if_neg h1]
    refine .inr ⟨b, o + 3, rfl, hb, fun j v hj => ?_⟩
    have := hx (3 + j) v (by
      show (x.cells ++ cellsL a)[3 + j]? = some v
      rw [List.getElem?_append_right (by show 3 ≤ _; omega)]
      show (cellsL a)[3 + j - 3]? = _
      rw [Nat.add_sub_cancel_left]
      exact hj)
    rw [show o + 3 + j = o + (3 + j) by omega]
    exact this
theorem slots_head {w : World} {B : Nat} {A : Option Addr} {x : Slt} {a : List Slt} (hR : Row w B A (cellsL (x :: a))) :
    ∃ b o, A = some ⟨b, o, none⟩ ∧ b < B ∧ w.cell? ⟨b, o, none⟩ = some (.string x.k) ∧ w.cell? ⟨b, o + 1, none⟩ = some (.int .i64 x.a) ∧ w.cell? ⟨b, o + 2, none⟩ = some (.int .i64 x.s) := by
  obtain ⟨b, o, rfl, hb, q0, q1, q2⟩ := row_slot (i := 0) hR rfl
  exact ⟨b, o, rfl, hb, q0, q1, q2⟩

/-- append(out, l...), l a slice of slots. -/
theorem run_append_slots (w : World) (base : Nat) (i : TypeInfo) (hi : Try.prog.info? 34 = some i) (hz : i.zero = some (.agg #[.string ⟨#[]⟩, .int .i64 0, .int .i64 0])) (hsize : i.size = 3) (hby : i.bytes = 32)
    (ty : TypeId) (v : Value) (o : List Slt) (hown : OwnS w base v o) (B : Nat) (A : Option Addr) (l : List Slt) (c : Nat) (hr : Row w B A (cellsL l)) (h63 : o.length + l.length ≤ 1000000) (hbase : base ≤ w.heap.size) :
    ∃ v' w', (Builtin.append_ #[22, 22] ty #[v, .slice A l.length c]).run Try.prog w = .ok v' w' ∧ OwnS w' base v' (o ++ l) ∧ w.grownBy w' v.ownBlock := by
  rcases A with _ | ad
  · have hn : l = [] := by
      rcases hr with h | ⟨b, off, e, _⟩
      · refine List.eq_nil_of_length_eq_zero ?_
        have := congrArg List.length h
        rw [cellsL_len] at this
        simp at this
        omega
      · cases e
    subst hn
    exact ⟨v, w, run_append_nothing w base 22 ty 34 i 3 Try.underlying22 hi v o.length (cellsL o) hown c, by rw [List.append_nil]; exact hown, World.grownBy.refl w _⟩
  · have hcells : ∀ j u, (cellsL l)[j]? = some u → w.cell? (ad.add j) = some u := by
      intro j u hu
      rcases hr with h | ⟨b, off, e, _, hc⟩
      · rw [h] at hu; simp at hu
      · injection e with e
        subst e
        have := hc j u hu
        have he : (⟨b, off, none⟩ : Addr).add j = ⟨b, off + j, none⟩ := by unfold Addr.add; split <;> simp_all
        rw [he]; exact this
    have h1 : ∀ u ∈ cellsL l, u.oneCell' = true := by
      intro u hu
      unfold cellsL at hu
      obtain ⟨x, _, hx⟩ := List.mem_flatMap.1 hu
      exact cells_one x u hx
    obtain ⟨v', w', hrun, h2, h3, _, h5⟩ := run_append_own_at (P := Try.prog) w base 22 ty 34 i (.agg #[.string ⟨#[]⟩, .int .i64 0, .int .i64 0]) 3 32 Try.underlying22 hi hz hsize hby rfl (by omega) v o.length (cellsL o) hown ad l.length c (cellsL l) (by rw [cellsL_len]; omega) hcells h1 (by unfold maxLen; omega) (by omega) hbase
    refine ⟨v', w', hrun, ?_, h3⟩
    unfold OwnS
    have e : cellsL (o ++ l) = cellsL o ++ cellsL l := by unfold cellsL; rw [List.flatMap_append]
    rw [e, List.length_append]
    exact h2

theorem wpList_append_slots {ops : Array Oper} {rest : List Oper} {op : Oper} {a : Act} {w : World} {Q : Exit → Act → World → Prop} (hgd : op.guard = none) (s x : Operand)
    (ho : op.op = .call { callee := .builtin .append, args := #[s, x], argTypes := #[22, 22] })
    (base : Nat) (i : TypeInfo) (hi : Try.prog.info? 34 = some i) (hz : i.zero = some (.agg #[.string ⟨#[]⟩, .int .i64 0, .int .i64 0])) (hsize : i.size = 3) (hby : i.bytes = 32)
    (v : Value) (o : List Slt) (hs : a.eval s = v) (hown : OwnS w base v o) (B : Nat) (A : Option Addr) (l : List Slt) (n c : Nat) (hx : a.eval x = .slice A n c) (hn : n = l.length) (hr : Row w B A (cellsL l)) (h63 : o.length + l.length ≤ 1000000) (hbase : base ≤ w.heap.size)
    (h : ∀ v' w', OwnS w' base v' (o ++ l) → w.grownBy w' v.ownBlock → wpList Try.prog ops Q rest (a.put op.dst v') w') : wpList Try.prog ops Q (op :: rest) a w := by
  subst hn
  refine wpList_plain hgd fun K hK => ?_
  obtain ⟨v', w', hrun, h2, h3⟩ := run_append_slots w base i hi hz hsize hby op.type v o hown B A l c hr h63 hbase
  unfold Oper.wp execOp
  simp only [ho, resolve, invoke, builtin, Sem.run_bind, Sem.run_pure, Result.andThen_ok, List.map_toArray, List.map_cons, List.map_nil, hs, hx, hrun]
  exact hK _ _ (h v' w' h2 h3)

theorem less_any (x y : Slt) (w : World) :
    Calls Try.prog 43 #[.agg #[.string x.k, .int .i64 x.a, .int .i64 x.s], .agg #[.string y.k, .int .i64 y.a, .int .i64 y.s]] w fun e w' => e = .returned (.bool (ltB x.k y.k)) ∧ Below w.heap.size w w' := by
  unfold ltB
  go_enter Try.func43, Try.ntmps43
  go_wp2_with fail
  go_ret
  exact ⟨rfl, by go_grown⟩

end Go.Proofs.Ytjjenpklcbpkmaa
