/-
  How many keys have a first byte of at most each.
-/
import Derived.Test.YtjjenpklcbpkmaaISlt
import Derived.Test.YtjjenpklcbpkmaaINum
namespace Go.Proofs.Ytjjenpklcbpkmaa
open Go.RowKit Go.Proofs.Mem
set_option linter.unusedVariables false

/-- 256 numbers in a block. -/
def Arr (w : World) (b : Nat) (f : Nat → Nat) : Prop := w.heap[b]? = some (.cells (Array.ofFn (n := 256) fun j => .int .i64 (f j.val : Nat)) 64 (0, 0))
theorem Arr.cell {w : World} {b : Nat} {f : Nat → Nat} (h : Arr w b f) {j : Nat} (hj : j < 256) : w.cell? ⟨b, j, none⟩ = some (.int .i64 (f j : Nat)) := by
  rw [cell_of_row w b j _ _ _ h]
  simp [hj]
theorem Arr.frozen {w : World} {b : Nat} {f : Nat → Nat} (h : Arr w b f) (j : Nat) : w.frozen? ⟨b, j, none⟩ = false := Lib.frozen_of_heap h j
theorem Arr.lt {w : World} {b : Nat} {f : Nat → Nat} (h : Arr w b f) : b < w.heap.size := by
  rcases Nat.lt_or_ge b w.heap.size with h' | h'
  · exact h'
  · unfold Arr at h
    rw [Array.getElem?_eq_none h'] at h
    cases h
theorem Arr.below {w w' : World} {b B : Nat} {f : Nat → Nat} (h : Arr w b f) (hb : b < B) (hB : Below B w w') : Arr w' b f := by
  unfold Arr at *
  rw [hB.block b hb]
  exact h
theorem Arr.drew {w : World} {b : Nat} {f : Nat → Nat} (h : Arr w b f) : Arr w.drew b f := h
theorem Arr.congr {w : World} {b : Nat} {f g : Nat → Nat} (h : Arr w b f) (hg : ∀ j, j < 256 → f j = g j) : Arr w b g := by
  unfold Arr at *
  rw [h]
  congr 3
  funext j
  rw [hg j.val j.isLt]
theorem ofFn_set (f : Nat → Nat) {n j : Nat} (hj : j < n) (v : Nat) : (Array.ofFn (n := n) fun j => Value.int .i64 (f j.val : Nat)).setIfInBounds j (.int .i64 v) = Array.ofFn (n := n) fun i => Value.int .i64 ((if i.val = j then v else f i.val : Nat) : Int) := by
  apply Array.ext
  · rw [Array.size_setIfInBounds, Array.size_ofFn, Array.size_ofFn]
  · intro i h1 h2
    rw [Array.getElem_setIfInBounds (by simpa using h1), Array.getElem_ofFn, Array.getElem_ofFn]
    by_cases hij : j = i
    · rw [if_pos hij, if_pos hij.symm]
    · rw [if_neg hij, if_neg (Ne.symm hij)]
theorem Arr.put {w : World} {b : Nat} {f : Nat → Nat} (h : Arr w b f) {j : Nat} (hj : j < 256) (v : Nat) : Arr (w.setCell ⟨b, j, none⟩ (.int .i64 v)) b (fun i => if i = j then v else f i) := by
  unfold Arr at *
  have hs : (w.setCell ⟨b, j, none⟩ (.int .i64 v)).heap[b]? = some (.cells ((Array.ofFn (n := 256) fun j => .int .i64 (f j.val : Nat)).setIfInBounds j (.int .i64 v)) 64 (0, 0)) := by
    exact heap_setCell_same w b j _ _ _ h
  rw [hs, ofFn_set f hj v]

def cntN (l : List Slt) (b : Nat) : Nat := l.countP fun x => byteAt x.k 0 == b
theorem cntN_snoc {l : List Slt} {k : Nat} {x : Slt} (h : l[k]? = some x) (b : Nat) : cntN (l.take (k + 1)) b = if b = byteAt x.k 0 then cntN (l.take k) (byteAt x.k 0) + 1 else cntN (l.take k) b := by
  unfold cntN
  rw [List.take_add_one, h, List.countP_append]
  by_cases hb : b = byteAt x.k 0
  · subst hb
    simp
  · rw [if_neg hb]
    simp [Ne.symm hb]
theorem cntN_le (l : List Slt) (b : Nat) : cntN l b ≤ l.length := List.countP_le_length
def fanN (l : List Slt) (b : Nat) : Nat := l.countP fun x => decide (byteAt x.k 0 ≤ b)

theorem fanN_le (l : List Slt) (b : Nat) : fanN l b ≤ l.length := List.countP_le_length
theorem fanN_zero (l : List Slt) : fanN l 0 = cntN l 0 := by
  unfold fanN cntN
  congr 1
  funext x
  rw [Bool.eq_iff_iff]
  simp
theorem fanN_succ (l : List Slt) (b : Nat) : fanN l (b + 1) = cntN l (b + 1) + fanN l b := by
  unfold fanN cntN
  induction l with
  | nil => rfl
  | cons x l ih =>
    simp only [List.countP_cons]
    rw [ih]
    generalize byteAt x.k 0 = y
    by_cases h1 : y ≤ b
    · have h2 : (y == b + 1) = false := by simp; omega
      rw [h2, decide_eq_true h1, decide_eq_true (show y ≤ b + 1 by omega)]
      simp only [if_true, Bool.false_eq_true, if_false]
      omega
    · rw [decide_eq_false h1]
      by_cases h2 : y = b + 1
      · rw [show (y == b + 1) = true by simp [h2], decide_eq_true (show y ≤ b + 1 by omega)]
        simp only [if_true, Bool.false_eq_true, if_false]
        omega
      · rw [show (y == b + 1) = false by simp [h2], decide_eq_false (show ¬ y ≤ b + 1 by omega)]
        simp only [Bool.false_eq_true, if_false]
        omega

theorem info_arr : (Try.prog.info? 64).map (fun i => (i.zero, i.size)) = some (some (.agg (Array.ofFn (n := 256) fun _ => .int .i64 0)), 256) := by kernel_rfl
theorem zero_arr (w : World) : Sem.run Try.prog (zeroValue 64) w = .ok (.agg (Array.ofFn (n := 256) fun _ => .int .i64 0)) w := by
  obtain ⟨i, hi, hz⟩ := Option.map_eq_some_iff.1 info_arr
  have : i.zero = some (.agg (Array.ofFn (n := 256) fun _ => .int .i64 0)) := by
    have := congrArg Prod.fst hz
    exact this
  simp [zeroValue, typeInfo, hi, this]

set_option maxHeartbeats 400000 in
theorem fan_any (v : Value) (l : List Slt) (w : World) (h : Slots w w.heap.size v l) (hz : ∀ x ∈ l, x.k.size = 32) (hn : l.length ≤ 4096) :
    Calls Try.prog 30 #[v] w fun e w' => e = .returned (.agg (Array.ofFn (n := 256) fun j => .int .i64 (fanN l j.val : Nat))) ∧ Below w.heap.size w w' := by
  obtain ⟨A, c, rfl, hc1, hc2, hR⟩ := h
  have HR := Lib.hid hR
  have HZ := Lib.hid hz
  have hl : l.length ≤ 9223372036854775807 := by omega
  clear hR hz hc1 hc2
  obtain ⟨cs, hcs⟩ : ∃ cs : Array Value, cs = Array.ofFn (n := 256) fun j => .int .i64 (fanN l j.val : Nat) := ⟨_, rfl⟩
  rw [← hcs]
  have HCS := Lib.hid hcs
  clear hcs
  obtain ⟨Z, hZ⟩ : ∃ Z : Array Value, Z = Array.ofFn (n := 256) fun _ => .int .i64 0 := ⟨_, rfl⟩
  have hzv := fun W => zero_arr W
  rw [← hZ] at hzv
  have HZZ := Lib.hid hZ
  clear hZ
  go_enter Try.func30, Try.ntmps30
  go_wp2_with fail
  have HA0 : Hid (Arr (w.alloc (.cells Z 64)) w.heap.size (cntN (l.take 0))) := Lib.hid (by
    unfold Arr
    rw [heap_alloc_new, HZZ.out]
    rfl)
  have HB0 : Hid (Below w.heap.size w (w.alloc (.cells Z 64))) := Lib.hid ((Below.refl _ _).alloc (Nat.le_refl _) _)
  go_loopw [4, 8] (fun _ q wr => ∃ k : Nat, q = .int .i64 k ∧ k ≤ l.length ∧ Hid (Arr wr w.heap.size (cntN (l.take k))) ∧ Hid (Below w.heap.size w wr)) (fun _ q _ => l.length + 1 - (intOf q).toNat)
  case atStart => exact ⟨0, rfl, Nat.zero_le _, HA0, HB0⟩
  case round =>
    obtain ⟨k, rfl, hk, hA, hB⟩ := hrel
    by_cases hlt : k < l.length
    · obtain ⟨x, hx⟩ : ∃ x, l[k]? = some x := ⟨l[k], List.getElem?_eq_getElem hlt⟩
      obtain ⟨b, o, rfl, hb, q0, q1, q2⟩ := row_slot HR.out hx
      have p0 := (hB.out.cell (p := ⟨b, o + k * 3, none⟩) hb).trans q0
      have p1 := (hB.out.cell (p := ⟨b, o + k * 3 + 1, none⟩) hb).trans q1
      have p2 := (hB.out.cell (p := ⟨b, o + k * 3 + 2, none⟩) hb).trans q2
      have hxz := HZ.out x (List.mem_of_getElem? hx)
      have n0 : 0 < x.k.size := by omega
      have HXZ := Lib.hid hxz
      have i1 : (k : Int) < (l.length : Int) := by omega
      have i0 : (0 : Int) ≤ (k : Int) := by omega
      have HX := Lib.hid hx
      have hlb : b < wr.heap.size := Nat.lt_of_lt_of_le hb hB.out.size
      obtain ⟨y, hy⟩ : ∃ y, y = (x.k[0]).toNat := ⟨_, rfl⟩
      have hy2 : y < 256 := by rw [hy]; exact UInt8.toNat_lt _
      have hy3 : (y : Int) < 256 := by omega
      have HY := Lib.hid hy
      have hyy := hy.symm
      have c0 := hA.out.cell hy2
      have f0 := hA.out.frozen y
      have lt0 := hA.out.lt
      have hxz' : x.k.size ≤ 9223372036854775807 := by omega
      clear q0 q1 q2 hx hxz hy
      have hcl : cntN (l.take k) y ≤ 4096 := by have := cntN_le (l.take k) y; rw [List.length_take] at this; omega
      go_wp2_with fail
      go_roundw
      case rel => exact ⟨k + 1, by go_num, by omega, Lib.hid (by
        refine Arr.below (B := wr.heap.size) (w := wr.setCell ⟨w.heap.size, y, none⟩ (.int .i64 ((cntN (l.take k) y + 1 : Nat) : Int))) (Arr.congr (hA.out.put hy2 _) ?_) lt0 ?_
        · intro j hj
          rw [cntN_snoc HX.out j, byteAt_eq (show 0 < x.k.size by have := HXZ.out; omega), ← HY.out]
        · exact (Below.refl _ _).alloc (by simp) _), Lib.hid ((hB.out.setCell (p := ⟨w.heap.size, y, none⟩) (Nat.le_refl _) _).alloc (by have := hB.out.size; simp only [World.size_setCell]; omega) _)⟩
      case measure => simp [intOf]; omega
    · obtain rfl : k = l.length := by omega
      have HC : Hid (Arr wr w.heap.size (fun j => if j < 1 then fanN l j else cntN l j)) := Lib.hid (by
        have h := hA.out
        rw [List.take_length] at h
        refine h.congr fun j _ => ?_
        by_cases hj : j < 1
        · obtain rfl : j = 0 := by omega
          simp [fanN_zero]
        · simp [hj])
      clear hA
      go_wp2_with fail
      go_loopw [5] (fun q wq => ∃ m : Nat, q = .int .i64 m ∧ 1 ≤ m ∧ m ≤ 256 ∧ Hid (Arr wq w.heap.size (fun j => if j < m then fanN l j else cntN l j)) ∧ Hid (Below w.heap.size w wq)) (fun q _ => 257 - (intOf q).toNat)
      case atStart => exact ⟨1, rfl, by omega, by omega, HC, hB⟩
      case round =>
        obtain ⟨m, rfl, hm1, hm, hA, hB⟩ := hrel
        by_cases hlm : m < 256
        · obtain ⟨j, hj⟩ : ∃ j, m - 1 = j := ⟨_, rfl⟩
          have HSI : (m : Int) - 1 = (j : Int) := by omega
          have m1 : (m : Int) < 256 := by omega
          have m0 : (0 : Int) ≤ (m : Int) := by omega
          have j1 : (j : Int) < 256 := by omega
          have j0 : (0 : Int) ≤ (j : Int) := by omega
          have jn : j < 256 := by omega
          have c0 := hA.out.cell hlm
          rw [if_neg (by omega)] at c0
          have c1 := hA.out.cell jn
          rw [if_pos (by omega)] at c1
          have f0 := hA.out.frozen m
          have lt0 := hA.out.lt
          have hs1 : cntN l m ≤ 4096 := by have := cntN_le l m; omega
          have hs2 : fanN l j ≤ 4096 := by have := fanN_le l j; omega
          have HJ := Lib.hid hj
          clear hj
          go_wp2_with fail
          go_region
          go_wp2_with fail
          go_roundw
          case rel => exact ⟨m + 1, by go_num, by omega, by omega, Lib.hid (by
            have hp := Arr.put hA.out hlm (cntN l m + fanN l j)
            rw [Int.natCast_add] at hp
            refine Arr.congr hp.drew ?_
            intro i hi
            have hmj : j + 1 = m := by have := HJ.out; omega
            have hs := fanN_succ l j
            rw [hmj] at hs
            by_cases him : i = m
            · rw [if_pos him, him, if_pos (by omega), hs]
            · rw [if_neg him]
              by_cases hlt : i < m
              · rw [if_pos hlt, if_pos (by omega)]
              · rw [if_neg hlt, if_neg (by omega)]), Lib.hid ((hB.out.setCell (p := ⟨w.heap.size, m, none⟩) (Nat.le_refl _) _).drew)⟩
          case measure => simp [intOf]; omega
        · have m1 : ((m : Int) < 256) = False := by simp; omega
          have hcs := HCS.out
          have hh := hA.out.congr (g := fanN l) (fun j hj => if_pos (by omega))
          unfold Arr at hh
          rw [← hcs] at hh
          have HH := Lib.hid hh
          have hsz : cs.size = 256 := by rw [hcs, Array.size_ofFn]
          have hone : cs.all (·.oneCell') = true := by rw [hcs, Array.all_eq_true]; intro i hi; rw [Array.getElem_ofFn]; rfl
          have hi : (Try.prog.info? 64).map (·.size) = some cs.size := by rw [hsz]; kernel_rfl
          have HI := Lib.hid hi
          have HO := Lib.hid hone
          have HS := Lib.hid (setRow_heap wr w.heap.size cs cs _ _ hh)
          clear hh hsz hone hi hcs
          go_wp2_with (first
            | (refine wpList_load_row rfl 64 (.tmp 2) rfl w.heap.size rfl _ cs (0, 0) (.array 256 3) HH.out (by kernel_rfl) rfl HI.out ?_)
            | (refine wpList_store_row rfl 64 (.tmp 2) (.tmp 33) rfl w.heap.size cs rfl rfl _ cs HH.out HI.out rfl HO.out ?_)
            | (refine bodyPost_ret (results_cell_row (p := 2) (ty := 64) rfl _ _ w.heap.size _ cs (0, 0) (.array 256 3) rfl HS.out (by kernel_rfl) rfl HI.out) rfl ?_))
          exact ⟨hB.out.os, hB.out.tape, hB.out.output, by rw [setRow_size]; exact hB.out.size, fun k hk => (setRow_other wr w.heap.size k cs (by omega)).trans (hB.out.block k hk)⟩

end Go.Proofs.Ytjjenpklcbpkmaa
