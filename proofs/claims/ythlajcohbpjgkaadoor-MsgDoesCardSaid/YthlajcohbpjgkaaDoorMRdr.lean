/-
  The reader's parts: cut, key, number, text.
-/
import Derived.Test.YthlajcohbpjgkaaDoorMTxt
import Derived.Test.YthlajcohbpjgkaaDoorMRdL
import Derived.Test.YthlajcohbpjgkaaDoorMFit
namespace Go.Proofs.YthlajcohbpjgkaaDoor
open Go.RowKit Go.Shelf Go.Proofs.Mem
set_option linter.unusedVariables false

/-- The reader's block holds a text. -/
def RdAt (w : World) (b : Nat) (s : ByteArray) : Prop := w.heap[b]? = some (.cells #[.string s] 60 (0, 0))
/-- The reader's block has turned, and no other. -/
def RdS (b : Nat) (s : ByteArray) (w w' : World) : Prop := RdAt w' b s ∧ w.grownBy w' (some b)
theorem grown_below {w w' : World} {row : Option Nat} (h : Below w.heap.size w w') : w.grownBy w' row := ⟨h.os, h.tape, h.output, h.size, fun k hk _ => h.block k hk⟩
theorem set_grown (w : World) (a : Addr) (x : Value) : w.grownBy (w.setCell a x) (some a.block) :=
  ⟨((Below.refl 0 w).setCell (p := a) (Nat.zero_le _) x).os, ((Below.refl 0 w).setCell (p := a) (Nat.zero_le _) x).tape, ((Below.refl 0 w).setCell (p := a) (Nat.zero_le _) x).output, by simp, fun k hk hne => Below.heap_setCell w a x k (fun e => hne (by rw [e]))⟩
theorem grown_tr {w w1 w2 : World} {row : Option Nat} (h : w.grownBy w1 row) (k : w1.grownBy w2 row) : w.grownBy w2 row :=
  ⟨k.os.trans h.os, k.tape.trans h.tape, k.output.trans h.output, Nat.le_trans h.size k.size, fun i hi hne => (k.block i (Nat.lt_of_lt_of_le hi h.size) hne).trans (h.block i hi hne)⟩
theorem RdAt.lt {w : World} {b : Nat} {s : ByteArray} (h : RdAt w b s) : b < w.heap.size := (Array.getElem?_eq_some_iff.1 h).1
theorem RdAt.cell {w : World} {b : Nat} {s : ByteArray} (h : RdAt w b s) : w.cell? ⟨b, 0, none⟩ = some (.string s) := by rw [Lib.cell_of_heap h]; rfl
theorem RdAt.froz {w : World} {b : Nat} {s : ByteArray} (h : RdAt w b s) (o : Nat) : w.frozen? ⟨b, o, none⟩ = false := Lib.frozen_of_heap h o
theorem RdAt.on {w w' : World} {b : Nat} {s : ByteArray} (h : RdAt w b s) (hb : Below w.heap.size w w') : RdAt w' b s := (hb.block b h.lt).trans h
theorem RdAt.set {w : World} {b : Nat} {s : ByteArray} (h : RdAt w b s) (t : ByteArray) : RdS b t w (w.setCell ⟨b, 0, none⟩ (.string t)) :=
  ⟨heap_setCell_same w b 0 _ _ _ h, set_grown w ⟨b, 0, none⟩ _⟩
theorem RdS.below {b : Nat} {s : ByteArray} {w w1 w2 : World} (h : Below w.heap.size w w1) (k : RdS b s w1 w2) : RdS b s w w2 := ⟨k.1, grown_tr (grown_below h) k.2⟩
def errV (c : Int) : Value := .iface 63 (.agg #[.int .i64 c])

set_option maxHeartbeats 1000000 in
theorem cut_any (b n : Nat) (s : ByteArray) (w : World) (h : RdAt w b s) (hn : n ≤ s.size) (hs : s.size ≤ 1000000) :
    Calls Tryd.prog 43 #[.pointer (some ⟨b, 0, none⟩), .int .i64 n] w fun e w' => e = .returned (.string (s.extract 0 n)) ∧ RdS b (s.extract n s.size) w w' := by
  have c0 := h.cell
  have f0 := h.froz 0
  have H := Lib.hid h
  have i1 : (n : Int) ≤ (s.size : Int) := by omega
  have i0 : (0 : Int) ≤ (n : Int) := by omega
  clear h
  go_enter Tryd.func43, Tryd.ntmps43
  go_wp2_with fail
  go_ret
  exact ⟨rfl, H.out.set _⟩

set_option maxHeartbeats 1000000 in
theorem key_yes (b : Nat) (s : ByteArray) (w : World) (h : RdAt w b s) (hn : 32 ≤ s.size) (hs : s.size ≤ 1000000) :
    Calls Tryd.prog 59 #[.pointer (some ⟨b, 0, none⟩)] w fun e w' => e = .returned (.tuple #[.string (s.extract 0 32), .nilIface]) ∧ RdS b (s.extract 32 s.size) w w' := by
  have c0 := h.cell
  have H := Lib.hid (cut_any b 32 s w h hn hs)
  have d1 : decide ((s.size : Int) < 32) = false := decide_eq_false (by omega)
  have d2 : decide (s.size < 32) = false := decide_eq_false (by omega)
  clear h
  go_enter Tryd.func59, Tryd.ntmps59
  go_wp2_with (go_at_call 43; refine Calls.mono H.out ?_; rintro e w1 ⟨rfl, h1⟩)
  go_ret2
  exact ⟨rfl, h1⟩
set_option maxHeartbeats 1000000 in
theorem key_no (b : Nat) (s : ByteArray) (w : World) (h : RdAt w b s) (hn : s.size < 32) :
    Calls Tryd.prog 59 #[.pointer (some ⟨b, 0, none⟩)] w fun e w' => e = .returned (.tuple #[.string ⟨#[]⟩, errV 1]) ∧ w' = w := by
  have c0 := h.cell
  have d1 : decide ((s.size : Int) < 32) = true := decide_eq_true (by omega)
  have d2 : decide (s.size < 32) = true := decide_eq_true (by omega)
  clear h
  go_enter Tryd.func59, Tryd.ntmps59
  go_wp2_with fail
  go_ret2
  exact ⟨rfl, rfl⟩

set_option maxHeartbeats 1000000 in
theorem text_yes (b : Nat) (s t : ByteArray) (k : Nat) (w : World) (h : RdAt w b s) (ht : takeT s = (t, k, 0)) (hs : s.size ≤ 1000000) :
    Calls Tryd.prog 44 #[.pointer (some ⟨b, 0, none⟩)] w fun e w' => e = .returned (.tuple #[.string t, .nilIface]) ∧ RdS b (s.extract k s.size) w w' := by
  have c0 := h.cell
  have hk : k ≤ s.size := by have := takeT_end s; rw [ht] at this; exact this
  have HT := Lib.hid (fun W => vtaket_any s W hs)
  rw [ht] at HT
  have HC := Lib.hid (fun W (hb : Below w.heap.size w W) => cut_any b k s W (h.on hb) hk hs)
  clear h ht
  go_enter Tryd.func44, Tryd.ntmps44
  go_wp2_with (first
    | (go_at_call 57; refine Calls.mono (HT.out _) ?_; unfold texV; rintro e w1 ⟨rfl, hb1⟩; have HB1 := Lib.hid hb1; clear hb1)
    | (go_at_call 43; refine Calls.mono (HC.out _ HB1.out) ?_; rintro e w2 ⟨rfl, h2⟩))
  go_ret2
  exact ⟨rfl, h2.below HB1.out⟩
set_option maxHeartbeats 1000000 in
theorem text_no (b : Nat) (s : ByteArray) (w : World) (h : RdAt w b s) (ht : (takeT s).2.2 ≠ 0) (hs : s.size ≤ 1000000) :
    Calls Tryd.prog 44 #[.pointer (some ⟨b, 0, none⟩)] w fun e w' => (∃ c, e = .returned (.tuple #[.string ⟨#[]⟩, errV c])) ∧ RdS b s w w' := by
  have c0 := h.cell
  obtain ⟨⟨t, k, c⟩, hx⟩ : ∃ x, x = takeT s := ⟨_, rfl⟩
  have HT := Lib.hid (fun W => vtaket_any s W hs)
  rw [← hx] at HT ht
  have hc : ¬ c = 0 := ht
  have d0 : ((c : Int) == 0) = false := by rw [beq_eq_false_iff_ne]; omega
  have d1 : ((c : Int) != 0) = true := by rw [bne, d0]; rfl
  have H := Lib.hid h
  clear h ht hx hc
  go_enter Tryd.func44, Tryd.ntmps44
  go_wp2_with (go_at_call 57; refine Calls.mono (HT.out _) ?_; unfold texV; rintro e w1 ⟨rfl, hb1⟩; have HB1 := Lib.hid hb1; clear hb1)
  go_ret2
  exact ⟨⟨_, rfl⟩, H.out.on HB1.out, grown_below HB1.out⟩

set_option maxHeartbeats 1000000 in
theorem number_yes (b most : Nat) (s : ByteArray) (n k : Nat) (w : World) (h : RdAt w b s) (ht : takeB s = (n, k, 0)) (hm : n ≤ most) (h63 : most ≤ 1000000) (hs : s.size ≤ 1000000) :
    Calls Tryd.prog 45 #[.pointer (some ⟨b, 0, none⟩), .int .u64 most] w fun e w' => e = .returned (.tuple #[.int .i64 n, .nilIface]) ∧ RdS b (s.extract k s.size) w w' := by
  have c0 := h.cell
  have hk : k ≤ s.size := by have := takeB_end s; rw [ht] at this; exact this
  have HT := Lib.hid (fun W => vtake_any s W hs)
  rw [ht] at HT
  have HC := Lib.hid (fun W (hb : Below w.heap.size w W) => cut_any b k s W (h.on hb) hk hs)
  have d1 : decide ((most : Int) < (n : Int)) = false := decide_eq_false (by omega)
  have d2 : decide (most < n) = false := decide_eq_false (by omega)
  have hwn : IntKind.i64.wrap (n : Int) = (n : Int) := by simp [IntKind.wrap, IntKind.bits, IntKind.signed]; omega
  clear h ht
  go_enter Tryd.func45, Tryd.ntmps45
  go_wp2_with (first
    | (go_at_call 58; refine Calls.mono (HT.out _) ?_; unfold tripV; rintro e w1 ⟨rfl, hb1⟩; have HB1 := Lib.hid hb1; clear hb1)
    | (go_at_call 43; refine Calls.mono (HC.out _ HB1.out) ?_; rintro e w2 ⟨rfl, h2⟩))
  go_ret2
  exact ⟨rfl, h2.below HB1.out⟩
set_option maxHeartbeats 1000000 in
theorem number_no (b most : Nat) (s : ByteArray) (w : World) (h : RdAt w b s) (ht : (takeB s).2.2 ≠ 0 ∨ most < (takeB s).1) (hs : s.size ≤ 1000000) :
    Calls Tryd.prog 45 #[.pointer (some ⟨b, 0, none⟩), .int .u64 most] w fun e w' => (∃ c, e = .returned (.tuple #[.int .i64 0, errV c])) ∧ RdS b s w w' := by
  have c0 := h.cell
  obtain ⟨⟨n, k, c⟩, hx⟩ : ∃ x, x = takeB s := ⟨_, rfl⟩
  have HT := Lib.hid (fun W => vtake_any s W hs)
  rw [← hx] at HT ht
  have H := Lib.hid h
  dsimp only at ht
  clear h hx
  by_cases hc : c = 0
  case neg =>
    have d0 : ((c : Int) == 0) = false := by rw [beq_eq_false_iff_ne]; omega
    have d1 : ((c : Int) != 0) = true := by rw [bne, d0]; rfl
    clear ht hc
    go_enter Tryd.func45, Tryd.ntmps45
    go_wp2_with (go_at_call 58; refine Calls.mono (HT.out _) ?_; unfold tripV; rintro e w1 ⟨rfl, hb1⟩; have HB1 := Lib.hid hb1; clear hb1)
    go_ret2
    exact ⟨⟨_, rfl⟩, H.out.on HB1.out, grown_below HB1.out⟩
  subst hc
  have hm : most < n := by rcases ht with h | h; exact absurd rfl h; exact h
  have d1 : decide ((most : Int) < (n : Int)) = true := decide_eq_true (by omega)
  have d2 : decide (most < n) = true := decide_eq_true hm
  clear ht hm
  go_enter Tryd.func45, Tryd.ntmps45
  go_wp2_with (go_at_call 58; refine Calls.mono (HT.out _) ?_; unfold tripV; rintro e w1 ⟨rfl, hb1⟩; have HB1 := Lib.hid hb1; clear hb1)
  go_ret2
  exact ⟨⟨_, rfl⟩, H.out.on HB1.out, grown_below HB1.out⟩

end Go.Proofs.YthlajcohbpjgkaaDoor
