/-
  THE CONTRACTS OF net.Post (for every side, every place), net.Pull.
-/
import Derived.Test.YtgllojpeggmleaaPost00
import Derived.Test.YtgllojpeggmleaaPost01
import Derived.Test.YtgllojpeggmleaaPost02
import Derived.Test.YtgllojpeggmleaaPost03
import Derived.Test.YtgllojpeggmleaaPost10
import Derived.Test.YtgllojpeggmleaaPost11
import Derived.Test.YtgllojpeggmleaaPost12
import Derived.Test.YtgllojpeggmleaaPost13
namespace Go.Proofs.Ytgllojpeggmleaa
open Go.RowKit Go.Proofs.Mem

def postD (ch : ByteArray) (l fair : Int) (ss : List ByteArray) (raw : ByteArray) : List ByteArray :=
  if wayOf ch = 0 ∧ l + 1 < fair then ss else if wayOf ch = 2 then last60 ([raw] ++ ss) else if wayOf ch = 3 then last60 (ss ++ [raw, raw]) else last60 (ss ++ [raw])
def postL (ch : ByteArray) (l fair : Int) : Int := if wayOf ch = 0 ∧ l + 1 < fair then l + 1 else 0

theorem wayOf_lt (ch : ByteArray) : wayOf ch < 4 := by unfold wayOf; split <;> omega

theorem way_cases (ch : ByteArray) (l fair : Int) : (wayOf ch = 0 ∧ l + 1 < fair) ∨ (wayOf ch = 0 ∧ ¬ l + 1 < fair) ∨ wayOf ch = 1 ∨ wayOf ch = 2 ∨ wayOf ch = 3 := by
  have := wayOf_lt ch
  omega

theorem post_00 (D : Nat → Value) (ss : List ByteArray) (ch raw : ByteArray) (L : Nat → Int) (fair : Int) (w : World) (hr : raw.size ≤ 65536) (hch : ch.size ≤ 9223372036854775807)
    (hS : Strs w w.heap.size (D 0) ss) (hO : ∃ A n c, D 1 = .slice A n c) (hl : ss.length ≤ 1000) (hL0 : 0 ≤ L 0) (hL1 : L 0 ≤ 1000) :
    Calls Try.prog 10 #[skyV D ch L fair, .int .i64 0, .int .i64 0, .string raw] w
      (PostX w (D 0) (fun V => skyV (upd D 0 V) (restOf ch) (upd L 0 (postL ch (L 0) fair)) fair) (postD ch (L 0) fair ss raw)) := by
  unfold postD postL
  rcases way_cases ch (L 0) fair with ⟨h, hx⟩ | ⟨h, hx⟩ | h | h | h
  · rw [if_pos ⟨h, hx⟩, if_pos ⟨h, hx⟩]
    exact core_00_l (D 0) (D 1) ss ch raw (L 0) (L 1) (L 2) (L 3) (L 4) (L 5) (L 6) (L 7) fair w hr hch hS hO hl hL0 hL1 h hx
  · rw [if_neg (fun e => hx e.2), if_neg (fun e => hx e.2), if_neg (by omega), if_neg (by omega)]
    exact core_00_0 (D 0) (D 1) ss ch raw (L 0) (L 1) (L 2) (L 3) (L 4) (L 5) (L 6) (L 7) fair w hr hch hS hO hl hL0 hL1 h hx
  · rw [if_neg (by omega), if_neg (by omega), if_neg (by omega), if_neg (by omega)]
    exact core_00_1 (D 0) (D 1) ss ch raw (L 0) (L 1) (L 2) (L 3) (L 4) (L 5) (L 6) (L 7) fair w hr hch hS hO hl hL0 hL1 h
  · rw [if_neg (by omega), if_neg (by omega), if_pos h]
    exact core_00_2 (D 0) (D 1) ss ch raw (L 0) (L 1) (L 2) (L 3) (L 4) (L 5) (L 6) (L 7) fair w hr hch hS hO hl hL0 hL1 h
  · rw [if_neg (by omega), if_neg (by omega), if_neg (by omega), if_pos h]
    exact core_00_3 (D 0) (D 1) ss ch raw (L 0) (L 1) (L 2) (L 3) (L 4) (L 5) (L 6) (L 7) fair w hr hch hS hO hl hL0 hL1 h

theorem post_01 (D : Nat → Value) (ss : List ByteArray) (ch raw : ByteArray) (L : Nat → Int) (fair : Int) (w : World) (hr : raw.size ≤ 65536) (hch : ch.size ≤ 9223372036854775807)
    (hS : Strs w w.heap.size (D 0) ss) (hO : ∃ A n c, D 1 = .slice A n c) (hl : ss.length ≤ 1000) (hL0 : 0 ≤ L 1) (hL1 : L 1 ≤ 1000) :
    Calls Try.prog 10 #[skyV D ch L fair, .int .i64 0, .int .i64 1, .string raw] w
      (PostX w (D 0) (fun V => skyV (upd D 0 V) (restOf ch) (upd L 1 (postL ch (L 1) fair)) fair) (postD ch (L 1) fair ss raw)) := by
  unfold postD postL
  rcases way_cases ch (L 1) fair with ⟨h, hx⟩ | ⟨h, hx⟩ | h | h | h
  · rw [if_pos ⟨h, hx⟩, if_pos ⟨h, hx⟩]
    exact core_01_l (D 0) (D 1) ss ch raw (L 0) (L 1) (L 2) (L 3) (L 4) (L 5) (L 6) (L 7) fair w hr hch hS hO hl hL0 hL1 h hx
  · rw [if_neg (fun e => hx e.2), if_neg (fun e => hx e.2), if_neg (by omega), if_neg (by omega)]
    exact core_01_0 (D 0) (D 1) ss ch raw (L 0) (L 1) (L 2) (L 3) (L 4) (L 5) (L 6) (L 7) fair w hr hch hS hO hl hL0 hL1 h hx
  · rw [if_neg (by omega), if_neg (by omega), if_neg (by omega), if_neg (by omega)]
    exact core_01_1 (D 0) (D 1) ss ch raw (L 0) (L 1) (L 2) (L 3) (L 4) (L 5) (L 6) (L 7) fair w hr hch hS hO hl hL0 hL1 h
  · rw [if_neg (by omega), if_neg (by omega), if_pos h]
    exact core_01_2 (D 0) (D 1) ss ch raw (L 0) (L 1) (L 2) (L 3) (L 4) (L 5) (L 6) (L 7) fair w hr hch hS hO hl hL0 hL1 h
  · rw [if_neg (by omega), if_neg (by omega), if_neg (by omega), if_pos h]
    exact core_01_3 (D 0) (D 1) ss ch raw (L 0) (L 1) (L 2) (L 3) (L 4) (L 5) (L 6) (L 7) fair w hr hch hS hO hl hL0 hL1 h

theorem post_02 (D : Nat → Value) (ss : List ByteArray) (ch raw : ByteArray) (L : Nat → Int) (fair : Int) (w : World) (hr : raw.size ≤ 65536) (hch : ch.size ≤ 9223372036854775807)
    (hS : Strs w w.heap.size (D 0) ss) (hO : ∃ A n c, D 1 = .slice A n c) (hl : ss.length ≤ 1000) (hL0 : 0 ≤ L 2) (hL1 : L 2 ≤ 1000) :
    Calls Try.prog 10 #[skyV D ch L fair, .int .i64 0, .int .i64 2, .string raw] w
      (PostX w (D 0) (fun V => skyV (upd D 0 V) (restOf ch) (upd L 2 (postL ch (L 2) fair)) fair) (postD ch (L 2) fair ss raw)) := by
  unfold postD postL
  rcases way_cases ch (L 2) fair with ⟨h, hx⟩ | ⟨h, hx⟩ | h | h | h
  · rw [if_pos ⟨h, hx⟩, if_pos ⟨h, hx⟩]
    exact core_02_l (D 0) (D 1) ss ch raw (L 0) (L 1) (L 2) (L 3) (L 4) (L 5) (L 6) (L 7) fair w hr hch hS hO hl hL0 hL1 h hx
  · rw [if_neg (fun e => hx e.2), if_neg (fun e => hx e.2), if_neg (by omega), if_neg (by omega)]
    exact core_02_0 (D 0) (D 1) ss ch raw (L 0) (L 1) (L 2) (L 3) (L 4) (L 5) (L 6) (L 7) fair w hr hch hS hO hl hL0 hL1 h hx
  · rw [if_neg (by omega), if_neg (by omega), if_neg (by omega), if_neg (by omega)]
    exact core_02_1 (D 0) (D 1) ss ch raw (L 0) (L 1) (L 2) (L 3) (L 4) (L 5) (L 6) (L 7) fair w hr hch hS hO hl hL0 hL1 h
  · rw [if_neg (by omega), if_neg (by omega), if_pos h]
    exact core_02_2 (D 0) (D 1) ss ch raw (L 0) (L 1) (L 2) (L 3) (L 4) (L 5) (L 6) (L 7) fair w hr hch hS hO hl hL0 hL1 h
  · rw [if_neg (by omega), if_neg (by omega), if_neg (by omega), if_pos h]
    exact core_02_3 (D 0) (D 1) ss ch raw (L 0) (L 1) (L 2) (L 3) (L 4) (L 5) (L 6) (L 7) fair w hr hch hS hO hl hL0 hL1 h

theorem post_03 (D : Nat → Value) (ss : List ByteArray) (ch raw : ByteArray) (L : Nat → Int) (fair : Int) (w : World) (hr : raw.size ≤ 65536) (hch : ch.size ≤ 9223372036854775807)
    (hS : Strs w w.heap.size (D 0) ss) (hO : ∃ A n c, D 1 = .slice A n c) (hl : ss.length ≤ 1000) (hL0 : 0 ≤ L 3) (hL1 : L 3 ≤ 1000) :
    Calls Try.prog 10 #[skyV D ch L fair, .int .i64 0, .int .i64 3, .string raw] w
      (PostX w (D 0) (fun V => skyV (upd D 0 V) (restOf ch) (upd L 3 (postL ch (L 3) fair)) fair) (postD ch (L 3) fair ss raw)) := by
  unfold postD postL
  rcases way_cases ch (L 3) fair with ⟨h, hx⟩ | ⟨h, hx⟩ | h | h | h
  · rw [if_pos ⟨h, hx⟩, if_pos ⟨h, hx⟩]
    exact core_03_l (D 0) (D 1) ss ch raw (L 0) (L 1) (L 2) (L 3) (L 4) (L 5) (L 6) (L 7) fair w hr hch hS hO hl hL0 hL1 h hx
  · rw [if_neg (fun e => hx e.2), if_neg (fun e => hx e.2), if_neg (by omega), if_neg (by omega)]
    exact core_03_0 (D 0) (D 1) ss ch raw (L 0) (L 1) (L 2) (L 3) (L 4) (L 5) (L 6) (L 7) fair w hr hch hS hO hl hL0 hL1 h hx
  · rw [if_neg (by omega), if_neg (by omega), if_neg (by omega), if_neg (by omega)]
    exact core_03_1 (D 0) (D 1) ss ch raw (L 0) (L 1) (L 2) (L 3) (L 4) (L 5) (L 6) (L 7) fair w hr hch hS hO hl hL0 hL1 h
  · rw [if_neg (by omega), if_neg (by omega), if_pos h]
    exact core_03_2 (D 0) (D 1) ss ch raw (L 0) (L 1) (L 2) (L 3) (L 4) (L 5) (L 6) (L 7) fair w hr hch hS hO hl hL0 hL1 h
  · rw [if_neg (by omega), if_neg (by omega), if_neg (by omega), if_pos h]
    exact core_03_3 (D 0) (D 1) ss ch raw (L 0) (L 1) (L 2) (L 3) (L 4) (L 5) (L 6) (L 7) fair w hr hch hS hO hl hL0 hL1 h

theorem post_10 (D : Nat → Value) (ss : List ByteArray) (ch raw : ByteArray) (L : Nat → Int) (fair : Int) (w : World) (hr : raw.size ≤ 65536) (hch : ch.size ≤ 9223372036854775807)
    (hS : Strs w w.heap.size (D 1) ss) (hO : ∃ A n c, D 0 = .slice A n c) (hl : ss.length ≤ 1000) (hL0 : 0 ≤ L 4) (hL1 : L 4 ≤ 1000) :
    Calls Try.prog 10 #[skyV D ch L fair, .int .i64 1, .int .i64 0, .string raw] w
      (PostX w (D 1) (fun V => skyV (upd D 1 V) (restOf ch) (upd L 4 (postL ch (L 4) fair)) fair) (postD ch (L 4) fair ss raw)) := by
  unfold postD postL
  rcases way_cases ch (L 4) fair with ⟨h, hx⟩ | ⟨h, hx⟩ | h | h | h
  · rw [if_pos ⟨h, hx⟩, if_pos ⟨h, hx⟩]
    exact core_10_l (D 0) (D 1) ss ch raw (L 0) (L 1) (L 2) (L 3) (L 4) (L 5) (L 6) (L 7) fair w hr hch hS hO hl hL0 hL1 h hx
  · rw [if_neg (fun e => hx e.2), if_neg (fun e => hx e.2), if_neg (by omega), if_neg (by omega)]
    exact core_10_0 (D 0) (D 1) ss ch raw (L 0) (L 1) (L 2) (L 3) (L 4) (L 5) (L 6) (L 7) fair w hr hch hS hO hl hL0 hL1 h hx
  · rw [if_neg (by omega), if_neg (by omega), if_neg (by omega), if_neg (by omega)]
    exact core_10_1 (D 0) (D 1) ss ch raw (L 0) (L 1) (L 2) (L 3) (L 4) (L 5) (L 6) (L 7) fair w hr hch hS hO hl hL0 hL1 h
  · rw [if_neg (by omega), if_neg (by omega), if_pos h]
    exact core_10_2 (D 0) (D 1) ss ch raw (L 0) (L 1) (L 2) (L 3) (L 4) (L 5) (L 6) (L 7) fair w hr hch hS hO hl hL0 hL1 h
  · rw [if_neg (by omega), if_neg (by omega), if_neg (by omega), if_pos h]
    exact core_10_3 (D 0) (D 1) ss ch raw (L 0) (L 1) (L 2) (L 3) (L 4) (L 5) (L 6) (L 7) fair w hr hch hS hO hl hL0 hL1 h

theorem post_11 (D : Nat → Value) (ss : List ByteArray) (ch raw : ByteArray) (L : Nat → Int) (fair : Int) (w : World) (hr : raw.size ≤ 65536) (hch : ch.size ≤ 9223372036854775807)
    (hS : Strs w w.heap.size (D 1) ss) (hO : ∃ A n c, D 0 = .slice A n c) (hl : ss.length ≤ 1000) (hL0 : 0 ≤ L 5) (hL1 : L 5 ≤ 1000) :
    Calls Try.prog 10 #[skyV D ch L fair, .int .i64 1, .int .i64 1, .string raw] w
      (PostX w (D 1) (fun V => skyV (upd D 1 V) (restOf ch) (upd L 5 (postL ch (L 5) fair)) fair) (postD ch (L 5) fair ss raw)) := by
  unfold postD postL
  rcases way_cases ch (L 5) fair with ⟨h, hx⟩ | ⟨h, hx⟩ | h | h | h
  · rw [if_pos ⟨h, hx⟩, if_pos ⟨h, hx⟩]
    exact core_11_l (D 0) (D 1) ss ch raw (L 0) (L 1) (L 2) (L 3) (L 4) (L 5) (L 6) (L 7) fair w hr hch hS hO hl hL0 hL1 h hx
  · rw [if_neg (fun e => hx e.2), if_neg (fun e => hx e.2), if_neg (by omega), if_neg (by omega)]
    exact core_11_0 (D 0) (D 1) ss ch raw (L 0) (L 1) (L 2) (L 3) (L 4) (L 5) (L 6) (L 7) fair w hr hch hS hO hl hL0 hL1 h hx
  · rw [if_neg (by omega), if_neg (by omega), if_neg (by omega), if_neg (by omega)]
    exact core_11_1 (D 0) (D 1) ss ch raw (L 0) (L 1) (L 2) (L 3) (L 4) (L 5) (L 6) (L 7) fair w hr hch hS hO hl hL0 hL1 h
  · rw [if_neg (by omega), if_neg (by omega), if_pos h]
    exact core_11_2 (D 0) (D 1) ss ch raw (L 0) (L 1) (L 2) (L 3) (L 4) (L 5) (L 6) (L 7) fair w hr hch hS hO hl hL0 hL1 h
  · rw [if_neg (by omega), if_neg (by omega), if_neg (by omega), if_pos h]
    exact core_11_3 (D 0) (D 1) ss ch raw (L 0) (L 1) (L 2) (L 3) (L 4) (L 5) (L 6) (L 7) fair w hr hch hS hO hl hL0 hL1 h

theorem post_12 (D : Nat → Value) (ss : List ByteArray) (ch raw : ByteArray) (L : Nat → Int) (fair : Int) (w : World) (hr : raw.size ≤ 65536) (hch : ch.size ≤ 9223372036854775807)
    (hS : Strs w w.heap.size (D 1) ss) (hO : ∃ A n c, D 0 = .slice A n c) (hl : ss.length ≤ 1000) (hL0 : 0 ≤ L 6) (hL1 : L 6 ≤ 1000) :
    Calls Try.prog 10 #[skyV D ch L fair, .int .i64 1, .int .i64 2, .string raw] w
      (PostX w (D 1) (fun V => skyV (upd D 1 V) (restOf ch) (upd L 6 (postL ch (L 6) fair)) fair) (postD ch (L 6) fair ss raw)) := by
  unfold postD postL
  rcases way_cases ch (L 6) fair with ⟨h, hx⟩ | ⟨h, hx⟩ | h | h | h
  · rw [if_pos ⟨h, hx⟩, if_pos ⟨h, hx⟩]
    exact core_12_l (D 0) (D 1) ss ch raw (L 0) (L 1) (L 2) (L 3) (L 4) (L 5) (L 6) (L 7) fair w hr hch hS hO hl hL0 hL1 h hx
  · rw [if_neg (fun e => hx e.2), if_neg (fun e => hx e.2), if_neg (by omega), if_neg (by omega)]
    exact core_12_0 (D 0) (D 1) ss ch raw (L 0) (L 1) (L 2) (L 3) (L 4) (L 5) (L 6) (L 7) fair w hr hch hS hO hl hL0 hL1 h hx
  · rw [if_neg (by omega), if_neg (by omega), if_neg (by omega), if_neg (by omega)]
    exact core_12_1 (D 0) (D 1) ss ch raw (L 0) (L 1) (L 2) (L 3) (L 4) (L 5) (L 6) (L 7) fair w hr hch hS hO hl hL0 hL1 h
  · rw [if_neg (by omega), if_neg (by omega), if_pos h]
    exact core_12_2 (D 0) (D 1) ss ch raw (L 0) (L 1) (L 2) (L 3) (L 4) (L 5) (L 6) (L 7) fair w hr hch hS hO hl hL0 hL1 h
  · rw [if_neg (by omega), if_neg (by omega), if_neg (by omega), if_pos h]
    exact core_12_3 (D 0) (D 1) ss ch raw (L 0) (L 1) (L 2) (L 3) (L 4) (L 5) (L 6) (L 7) fair w hr hch hS hO hl hL0 hL1 h

theorem post_13 (D : Nat → Value) (ss : List ByteArray) (ch raw : ByteArray) (L : Nat → Int) (fair : Int) (w : World) (hr : raw.size ≤ 65536) (hch : ch.size ≤ 9223372036854775807)
    (hS : Strs w w.heap.size (D 1) ss) (hO : ∃ A n c, D 0 = .slice A n c) (hl : ss.length ≤ 1000) (hL0 : 0 ≤ L 7) (hL1 : L 7 ≤ 1000) :
    Calls Try.prog 10 #[skyV D ch L fair, .int .i64 1, .int .i64 3, .string raw] w
      (PostX w (D 1) (fun V => skyV (upd D 1 V) (restOf ch) (upd L 7 (postL ch (L 7) fair)) fair) (postD ch (L 7) fair ss raw)) := by
  unfold postD postL
  rcases way_cases ch (L 7) fair with ⟨h, hx⟩ | ⟨h, hx⟩ | h | h | h
  · rw [if_pos ⟨h, hx⟩, if_pos ⟨h, hx⟩]
    exact core_13_l (D 0) (D 1) ss ch raw (L 0) (L 1) (L 2) (L 3) (L 4) (L 5) (L 6) (L 7) fair w hr hch hS hO hl hL0 hL1 h hx
  · rw [if_neg (fun e => hx e.2), if_neg (fun e => hx e.2), if_neg (by omega), if_neg (by omega)]
    exact core_13_0 (D 0) (D 1) ss ch raw (L 0) (L 1) (L 2) (L 3) (L 4) (L 5) (L 6) (L 7) fair w hr hch hS hO hl hL0 hL1 h hx
  · rw [if_neg (by omega), if_neg (by omega), if_neg (by omega), if_neg (by omega)]
    exact core_13_1 (D 0) (D 1) ss ch raw (L 0) (L 1) (L 2) (L 3) (L 4) (L 5) (L 6) (L 7) fair w hr hch hS hO hl hL0 hL1 h
  · rw [if_neg (by omega), if_neg (by omega), if_pos h]
    exact core_13_2 (D 0) (D 1) ss ch raw (L 0) (L 1) (L 2) (L 3) (L 4) (L 5) (L 6) (L 7) fair w hr hch hS hO hl hL0 hL1 h
  · rw [if_neg (by omega), if_neg (by omega), if_neg (by omega), if_pos h]
    exact core_13_3 (D 0) (D 1) ss ch raw (L 0) (L 1) (L 2) (L 3) (L 4) (L 5) (L 6) (L 7) fair w hr hch hS hO hl hL0 hL1 h


theorem post_any (to at_ : Nat) (hto : to < 2) (hat : at_ < 4) (D : Nat → Value) (ss : List ByteArray) (ch raw : ByteArray) (L : Nat → Int) (fair : Int) (w : World) (hr : raw.size ≤ 65536) (hch : ch.size ≤ 9223372036854775807)
    (hS : Strs w w.heap.size (D to) ss) (hO : ∃ A n c, D (1 - to) = .slice A n c) (hl : ss.length ≤ 1000) (hL0 : 0 ≤ L (4 * to + at_)) (hL1 : L (4 * to + at_) ≤ 1000) :
    Calls Try.prog 10 #[skyV D ch L fair, .int .i64 to, .int .i64 at_, .string raw] w
      (PostX w (D to) (fun V => skyV (upd D to V) (restOf ch) (upd L (4 * to + at_) (postL ch (L (4 * to + at_)) fair)) fair) (postD ch (L (4 * to + at_)) fair ss raw)) := by
  have h1 : to = 0 ∨ to = 1 := by omega
  have h2 : at_ = 0 ∨ at_ = 1 ∨ at_ = 2 ∨ at_ = 3 := by omega
  rcases h1 with rfl | rfl <;> rcases h2 with rfl | rfl | rfl | rfl
  · exact post_00 D ss ch raw L fair w hr hch hS hO hl hL0 hL1
  · exact post_01 D ss ch raw L fair w hr hch hS hO hl hL0 hL1
  · exact post_02 D ss ch raw L fair w hr hch hS hO hl hL0 hL1
  · exact post_03 D ss ch raw L fair w hr hch hS hO hl hL0 hL1
  · exact post_10 D ss ch raw L fair w hr hch hS hO hl hL0 hL1
  · exact post_11 D ss ch raw L fair w hr hch hS hO hl hL0 hL1
  · exact post_12 D ss ch raw L fair w hr hch hS hO hl hL0 hL1
  · exact post_13 D ss ch raw L fair w hr hch hS hO hl hL0 hL1

end Go.Proofs.Ytgllojpeggmleaa
