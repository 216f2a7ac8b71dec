/-
  THE CONTRACT OF siloref24.Post (for every side, every place).
-/
import Derived.Test.YtgllojpeggmleaaNetC
import Derived.Test.YtgllojpeggmleaaRPost00
import Derived.Test.YtgllojpeggmleaaRPost01
import Derived.Test.YtgllojpeggmleaaRPost02
import Derived.Test.YtgllojpeggmleaaRPost03
import Derived.Test.YtgllojpeggmleaaRPost10
import Derived.Test.YtgllojpeggmleaaRPost11
import Derived.Test.YtgllojpeggmleaaRPost12
import Derived.Test.YtgllojpeggmleaaRPost13
namespace Go.Proofs.Ytgllojpeggmleaa
open Go.RowKit Go.Proofs.Mem

theorem empty_of {ch : ByteArray} (h : ¬ 0 < ch.size) : ch = ⟨#[]⟩ := by
  have hz : ch.data.size = 0 := by have : ch.data.size = ch.size := rfl; omega
  obtain ⟨d⟩ := ch
  have hd : d = #[] := Array.eq_empty_of_size_eq_zero hz
  rw [hd]
theorem way_e : wayOf ⟨#[]⟩ = 1 := by decide
theorem rest_e : restOf ⟨#[]⟩ = ⟨#[]⟩ := by decide

theorem rpost_00 (D : Nat → Value) (ss : List ByteArray) (ch raw : ByteArray) (L : Nat → Int) (fair : Int) (w : World) (hr : raw.size ≤ 65536) (hch : ch.size ≤ 9223372036854775807)
    (hS : Strs w w.heap.size (D 0) ss) (hO : ∃ A n c, D 1 = .slice A n c) (hl : ss.length ≤ 1000) (hL0 : 0 ≤ L 0) (hL1 : L 0 ≤ 1000) (hf0 : 1 ≤ fair) (hf1 : fair ≤ 8) :
    Calls Try.prog 16 #[skyV D ch L fair, .int .i64 0, .int .i64 0, .string raw] w
      (PostX w (D 0) (fun V => skyV (upd D 0 V) (restOf ch) (upd L 0 (postL ch (L 0) fair)) fair) (postD ch (L 0) fair ss raw)) := by
  unfold postD postL
  by_cases h0 : 0 < ch.size
  · rcases way_cases ch (L 0) fair with ⟨h, hx⟩ | ⟨h, hx⟩ | h | h | h
    · rw [if_pos ⟨h, hx⟩, if_pos ⟨h, hx⟩]
      exact rcore_00_l (D 0) (D 1) ss ch raw (L 0) (L 1) (L 2) (L 3) (L 4) (L 5) (L 6) (L 7) fair w hr hch hS hO hl hL0 hL1 hf0 hf1 h0 h (by omega)
    · rw [if_neg (fun e => hx e.2), if_neg (fun e => hx e.2), if_neg (by omega), if_neg (by omega)]
      exact rcore_00_0 (D 0) (D 1) ss ch raw (L 0) (L 1) (L 2) (L 3) (L 4) (L 5) (L 6) (L 7) fair w hr hch hS hO hl hL0 hL1 hf0 hf1 h0 h (by omega)
    · rw [if_neg (by omega), if_neg (by omega), if_neg (by omega), if_neg (by omega)]
      exact rcore_00_1 (D 0) (D 1) ss ch raw (L 0) (L 1) (L 2) (L 3) (L 4) (L 5) (L 6) (L 7) fair w hr hch hS hO hl hL0 hL1 hf0 hf1 h0 h
    · rw [if_neg (by omega), if_neg (by omega), if_pos h]
      exact rcore_00_2 (D 0) (D 1) ss ch raw (L 0) (L 1) (L 2) (L 3) (L 4) (L 5) (L 6) (L 7) fair w hr hch hS hO hl hL0 hL1 hf0 hf1 h0 h
    · rw [if_neg (by omega), if_neg (by omega), if_neg (by omega), if_pos h]
      exact rcore_00_3 (D 0) (D 1) ss ch raw (L 0) (L 1) (L 2) (L 3) (L 4) (L 5) (L 6) (L 7) fair w hr hch hS hO hl hL0 hL1 hf0 hf1 h0 h
  · obtain rfl := empty_of h0
    rw [way_e, rest_e, if_neg (by omega), if_neg (by omega), if_neg (by omega), if_neg (by omega)]
    exact rcore_00_e (D 0) (D 1) ss ⟨#[]⟩ raw (L 0) (L 1) (L 2) (L 3) (L 4) (L 5) (L 6) (L 7) fair w hr hch hS hO hl hL0 hL1 hf0 hf1

theorem rpost_01 (D : Nat → Value) (ss : List ByteArray) (ch raw : ByteArray) (L : Nat → Int) (fair : Int) (w : World) (hr : raw.size ≤ 65536) (hch : ch.size ≤ 9223372036854775807)
    (hS : Strs w w.heap.size (D 0) ss) (hO : ∃ A n c, D 1 = .slice A n c) (hl : ss.length ≤ 1000) (hL0 : 0 ≤ L 1) (hL1 : L 1 ≤ 1000) (hf0 : 1 ≤ fair) (hf1 : fair ≤ 8) :
    Calls Try.prog 16 #[skyV D ch L fair, .int .i64 0, .int .i64 1, .string raw] w
      (PostX w (D 0) (fun V => skyV (upd D 0 V) (restOf ch) (upd L 1 (postL ch (L 1) fair)) fair) (postD ch (L 1) fair ss raw)) := by
  unfold postD postL
  by_cases h0 : 0 < ch.size
  · rcases way_cases ch (L 1) fair with ⟨h, hx⟩ | ⟨h, hx⟩ | h | h | h
    · rw [if_pos ⟨h, hx⟩, if_pos ⟨h, hx⟩]
      exact rcore_01_l (D 0) (D 1) ss ch raw (L 0) (L 1) (L 2) (L 3) (L 4) (L 5) (L 6) (L 7) fair w hr hch hS hO hl hL0 hL1 hf0 hf1 h0 h (by omega)
    · rw [if_neg (fun e => hx e.2), if_neg (fun e => hx e.2), if_neg (by omega), if_neg (by omega)]
      exact rcore_01_0 (D 0) (D 1) ss ch raw (L 0) (L 1) (L 2) (L 3) (L 4) (L 5) (L 6) (L 7) fair w hr hch hS hO hl hL0 hL1 hf0 hf1 h0 h (by omega)
    · rw [if_neg (by omega), if_neg (by omega), if_neg (by omega), if_neg (by omega)]
      exact rcore_01_1 (D 0) (D 1) ss ch raw (L 0) (L 1) (L 2) (L 3) (L 4) (L 5) (L 6) (L 7) fair w hr hch hS hO hl hL0 hL1 hf0 hf1 h0 h
    · rw [if_neg (by omega), if_neg (by omega), if_pos h]
      exact rcore_01_2 (D 0) (D 1) ss ch raw (L 0) (L 1) (L 2) (L 3) (L 4) (L 5) (L 6) (L 7) fair w hr hch hS hO hl hL0 hL1 hf0 hf1 h0 h
    · rw [if_neg (by omega), if_neg (by omega), if_neg (by omega), if_pos h]
      exact rcore_01_3 (D 0) (D 1) ss ch raw (L 0) (L 1) (L 2) (L 3) (L 4) (L 5) (L 6) (L 7) fair w hr hch hS hO hl hL0 hL1 hf0 hf1 h0 h
  · obtain rfl := empty_of h0
    rw [way_e, rest_e, if_neg (by omega), if_neg (by omega), if_neg (by omega), if_neg (by omega)]
    exact rcore_01_e (D 0) (D 1) ss ⟨#[]⟩ raw (L 0) (L 1) (L 2) (L 3) (L 4) (L 5) (L 6) (L 7) fair w hr hch hS hO hl hL0 hL1 hf0 hf1

theorem rpost_02 (D : Nat → Value) (ss : List ByteArray) (ch raw : ByteArray) (L : Nat → Int) (fair : Int) (w : World) (hr : raw.size ≤ 65536) (hch : ch.size ≤ 9223372036854775807)
    (hS : Strs w w.heap.size (D 0) ss) (hO : ∃ A n c, D 1 = .slice A n c) (hl : ss.length ≤ 1000) (hL0 : 0 ≤ L 2) (hL1 : L 2 ≤ 1000) (hf0 : 1 ≤ fair) (hf1 : fair ≤ 8) :
    Calls Try.prog 16 #[skyV D ch L fair, .int .i64 0, .int .i64 2, .string raw] w
      (PostX w (D 0) (fun V => skyV (upd D 0 V) (restOf ch) (upd L 2 (postL ch (L 2) fair)) fair) (postD ch (L 2) fair ss raw)) := by
  unfold postD postL
  by_cases h0 : 0 < ch.size
  · rcases way_cases ch (L 2) fair with ⟨h, hx⟩ | ⟨h, hx⟩ | h | h | h
    · rw [if_pos ⟨h, hx⟩, if_pos ⟨h, hx⟩]
      exact rcore_02_l (D 0) (D 1) ss ch raw (L 0) (L 1) (L 2) (L 3) (L 4) (L 5) (L 6) (L 7) fair w hr hch hS hO hl hL0 hL1 hf0 hf1 h0 h (by omega)
    · rw [if_neg (fun e => hx e.2), if_neg (fun e => hx e.2), if_neg (by omega), if_neg (by omega)]
      exact rcore_02_0 (D 0) (D 1) ss ch raw (L 0) (L 1) (L 2) (L 3) (L 4) (L 5) (L 6) (L 7) fair w hr hch hS hO hl hL0 hL1 hf0 hf1 h0 h (by omega)
    · rw [if_neg (by omega), if_neg (by omega), if_neg (by omega), if_neg (by omega)]
      exact rcore_02_1 (D 0) (D 1) ss ch raw (L 0) (L 1) (L 2) (L 3) (L 4) (L 5) (L 6) (L 7) fair w hr hch hS hO hl hL0 hL1 hf0 hf1 h0 h
    · rw [if_neg (by omega), if_neg (by omega), if_pos h]
      exact rcore_02_2 (D 0) (D 1) ss ch raw (L 0) (L 1) (L 2) (L 3) (L 4) (L 5) (L 6) (L 7) fair w hr hch hS hO hl hL0 hL1 hf0 hf1 h0 h
    · rw [if_neg (by omega), if_neg (by omega), if_neg (by omega), if_pos h]
      exact rcore_02_3 (D 0) (D 1) ss ch raw (L 0) (L 1) (L 2) (L 3) (L 4) (L 5) (L 6) (L 7) fair w hr hch hS hO hl hL0 hL1 hf0 hf1 h0 h
  · obtain rfl := empty_of h0
    rw [way_e, rest_e, if_neg (by omega), if_neg (by omega), if_neg (by omega), if_neg (by omega)]
    exact rcore_02_e (D 0) (D 1) ss ⟨#[]⟩ raw (L 0) (L 1) (L 2) (L 3) (L 4) (L 5) (L 6) (L 7) fair w hr hch hS hO hl hL0 hL1 hf0 hf1

theorem rpost_03 (D : Nat → Value) (ss : List ByteArray) (ch raw : ByteArray) (L : Nat → Int) (fair : Int) (w : World) (hr : raw.size ≤ 65536) (hch : ch.size ≤ 9223372036854775807)
    (hS : Strs w w.heap.size (D 0) ss) (hO : ∃ A n c, D 1 = .slice A n c) (hl : ss.length ≤ 1000) (hL0 : 0 ≤ L 3) (hL1 : L 3 ≤ 1000) (hf0 : 1 ≤ fair) (hf1 : fair ≤ 8) :
    Calls Try.prog 16 #[skyV D ch L fair, .int .i64 0, .int .i64 3, .string raw] w
      (PostX w (D 0) (fun V => skyV (upd D 0 V) (restOf ch) (upd L 3 (postL ch (L 3) fair)) fair) (postD ch (L 3) fair ss raw)) := by
  unfold postD postL
  by_cases h0 : 0 < ch.size
  · rcases way_cases ch (L 3) fair with ⟨h, hx⟩ | ⟨h, hx⟩ | h | h | h
    · rw [if_pos ⟨h, hx⟩, if_pos ⟨h, hx⟩]
      exact rcore_03_l (D 0) (D 1) ss ch raw (L 0) (L 1) (L 2) (L 3) (L 4) (L 5) (L 6) (L 7) fair w hr hch hS hO hl hL0 hL1 hf0 hf1 h0 h (by omega)
    · rw [if_neg (fun e => hx e.2), if_neg (fun e => hx e.2), if_neg (by omega), if_neg (by omega)]
      exact rcore_03_0 (D 0) (D 1) ss ch raw (L 0) (L 1) (L 2) (L 3) (L 4) (L 5) (L 6) (L 7) fair w hr hch hS hO hl hL0 hL1 hf0 hf1 h0 h (by omega)
    · rw [if_neg (by omega), if_neg (by omega), if_neg (by omega), if_neg (by omega)]
      exact rcore_03_1 (D 0) (D 1) ss ch raw (L 0) (L 1) (L 2) (L 3) (L 4) (L 5) (L 6) (L 7) fair w hr hch hS hO hl hL0 hL1 hf0 hf1 h0 h
    · rw [if_neg (by omega), if_neg (by omega), if_pos h]
      exact rcore_03_2 (D 0) (D 1) ss ch raw (L 0) (L 1) (L 2) (L 3) (L 4) (L 5) (L 6) (L 7) fair w hr hch hS hO hl hL0 hL1 hf0 hf1 h0 h
    · rw [if_neg (by omega), if_neg (by omega), if_neg (by omega), if_pos h]
      exact rcore_03_3 (D 0) (D 1) ss ch raw (L 0) (L 1) (L 2) (L 3) (L 4) (L 5) (L 6) (L 7) fair w hr hch hS hO hl hL0 hL1 hf0 hf1 h0 h
  · obtain rfl := empty_of h0
    rw [way_e, rest_e, if_neg (by omega), if_neg (by omega), if_neg (by omega), if_neg (by omega)]
    exact rcore_03_e (D 0) (D 1) ss ⟨#[]⟩ raw (L 0) (L 1) (L 2) (L 3) (L 4) (L 5) (L 6) (L 7) fair w hr hch hS hO hl hL0 hL1 hf0 hf1

theorem rpost_10 (D : Nat → Value) (ss : List ByteArray) (ch raw : ByteArray) (L : Nat → Int) (fair : Int) (w : World) (hr : raw.size ≤ 65536) (hch : ch.size ≤ 9223372036854775807)
    (hS : Strs w w.heap.size (D 1) ss) (hO : ∃ A n c, D 0 = .slice A n c) (hl : ss.length ≤ 1000) (hL0 : 0 ≤ L 4) (hL1 : L 4 ≤ 1000) (hf0 : 1 ≤ fair) (hf1 : fair ≤ 8) :
    Calls Try.prog 16 #[skyV D ch L fair, .int .i64 1, .int .i64 0, .string raw] w
      (PostX w (D 1) (fun V => skyV (upd D 1 V) (restOf ch) (upd L 4 (postL ch (L 4) fair)) fair) (postD ch (L 4) fair ss raw)) := by
  unfold postD postL
  by_cases h0 : 0 < ch.size
  · rcases way_cases ch (L 4) fair with ⟨h, hx⟩ | ⟨h, hx⟩ | h | h | h
    · rw [if_pos ⟨h, hx⟩, if_pos ⟨h, hx⟩]
      exact rcore_10_l (D 0) (D 1) ss ch raw (L 0) (L 1) (L 2) (L 3) (L 4) (L 5) (L 6) (L 7) fair w hr hch hS hO hl hL0 hL1 hf0 hf1 h0 h (by omega)
    · rw [if_neg (fun e => hx e.2), if_neg (fun e => hx e.2), if_neg (by omega), if_neg (by omega)]
      exact rcore_10_0 (D 0) (D 1) ss ch raw (L 0) (L 1) (L 2) (L 3) (L 4) (L 5) (L 6) (L 7) fair w hr hch hS hO hl hL0 hL1 hf0 hf1 h0 h (by omega)
    · rw [if_neg (by omega), if_neg (by omega), if_neg (by omega), if_neg (by omega)]
      exact rcore_10_1 (D 0) (D 1) ss ch raw (L 0) (L 1) (L 2) (L 3) (L 4) (L 5) (L 6) (L 7) fair w hr hch hS hO hl hL0 hL1 hf0 hf1 h0 h
    · rw [if_neg (by omega), if_neg (by omega), if_pos h]
      exact rcore_10_2 (D 0) (D 1) ss ch raw (L 0) (L 1) (L 2) (L 3) (L 4) (L 5) (L 6) (L 7) fair w hr hch hS hO hl hL0 hL1 hf0 hf1 h0 h
    · rw [if_neg (by omega), if_neg (by omega), if_neg (by omega), if_pos h]
      exact rcore_10_3 (D 0) (D 1) ss ch raw (L 0) (L 1) (L 2) (L 3) (L 4) (L 5) (L 6) (L 7) fair w hr hch hS hO hl hL0 hL1 hf0 hf1 h0 h
  · obtain rfl := empty_of h0
    rw [way_e, rest_e, if_neg (by omega), if_neg (by omega), if_neg (by omega), if_neg (by omega)]
    exact rcore_10_e (D 0) (D 1) ss ⟨#[]⟩ raw (L 0) (L 1) (L 2) (L 3) (L 4) (L 5) (L 6) (L 7) fair w hr hch hS hO hl hL0 hL1 hf0 hf1

theorem rpost_11 (D : Nat → Value) (ss : List ByteArray) (ch raw : ByteArray) (L : Nat → Int) (fair : Int) (w : World) (hr : raw.size ≤ 65536) (hch : ch.size ≤ 9223372036854775807)
    (hS : Strs w w.heap.size (D 1) ss) (hO : ∃ A n c, D 0 = .slice A n c) (hl : ss.length ≤ 1000) (hL0 : 0 ≤ L 5) (hL1 : L 5 ≤ 1000) (hf0 : 1 ≤ fair) (hf1 : fair ≤ 8) :
    Calls Try.prog 16 #[skyV D ch L fair, .int .i64 1, .int .i64 1, .string raw] w
      (PostX w (D 1) (fun V => skyV (upd D 1 V) (restOf ch) (upd L 5 (postL ch (L 5) fair)) fair) (postD ch (L 5) fair ss raw)) := by
  unfold postD postL
  by_cases h0 : 0 < ch.size
  · rcases way_cases ch (L 5) fair with ⟨h, hx⟩ | ⟨h, hx⟩ | h | h | h
    · rw [if_pos ⟨h, hx⟩, if_pos ⟨h, hx⟩]
      exact rcore_11_l (D 0) (D 1) ss ch raw (L 0) (L 1) (L 2) (L 3) (L 4) (L 5) (L 6) (L 7) fair w hr hch hS hO hl hL0 hL1 hf0 hf1 h0 h (by omega)
    · rw [if_neg (fun e => hx e.2), if_neg (fun e => hx e.2), if_neg (by omega), if_neg (by omega)]
      exact rcore_11_0 (D 0) (D 1) ss ch raw (L 0) (L 1) (L 2) (L 3) (L 4) (L 5) (L 6) (L 7) fair w hr hch hS hO hl hL0 hL1 hf0 hf1 h0 h (by omega)
    · rw [if_neg (by omega), if_neg (by omega), if_neg (by omega), if_neg (by omega)]
      exact rcore_11_1 (D 0) (D 1) ss ch raw (L 0) (L 1) (L 2) (L 3) (L 4) (L 5) (L 6) (L 7) fair w hr hch hS hO hl hL0 hL1 hf0 hf1 h0 h
    · rw [if_neg (by omega), if_neg (by omega), if_pos h]
      exact rcore_11_2 (D 0) (D 1) ss ch raw (L 0) (L 1) (L 2) (L 3) (L 4) (L 5) (L 6) (L 7) fair w hr hch hS hO hl hL0 hL1 hf0 hf1 h0 h
    · rw [if_neg (by omega), if_neg (by omega), if_neg (by omega), if_pos h]
      exact rcore_11_3 (D 0) (D 1) ss ch raw (L 0) (L 1) (L 2) (L 3) (L 4) (L 5) (L 6) (L 7) fair w hr hch hS hO hl hL0 hL1 hf0 hf1 h0 h
  · obtain rfl := empty_of h0
    rw [way_e, rest_e, if_neg (by omega), if_neg (by omega), if_neg (by omega), if_neg (by omega)]
    exact rcore_11_e (D 0) (D 1) ss ⟨#[]⟩ raw (L 0) (L 1) (L 2) (L 3) (L 4) (L 5) (L 6) (L 7) fair w hr hch hS hO hl hL0 hL1 hf0 hf1

theorem rpost_12 (D : Nat → Value) (ss : List ByteArray) (ch raw : ByteArray) (L : Nat → Int) (fair : Int) (w : World) (hr : raw.size ≤ 65536) (hch : ch.size ≤ 9223372036854775807)
    (hS : Strs w w.heap.size (D 1) ss) (hO : ∃ A n c, D 0 = .slice A n c) (hl : ss.length ≤ 1000) (hL0 : 0 ≤ L 6) (hL1 : L 6 ≤ 1000) (hf0 : 1 ≤ fair) (hf1 : fair ≤ 8) :
    Calls Try.prog 16 #[skyV D ch L fair, .int .i64 1, .int .i64 2, .string raw] w
      (PostX w (D 1) (fun V => skyV (upd D 1 V) (restOf ch) (upd L 6 (postL ch (L 6) fair)) fair) (postD ch (L 6) fair ss raw)) := by
  unfold postD postL
  by_cases h0 : 0 < ch.size
  · rcases way_cases ch (L 6) fair with ⟨h, hx⟩ | ⟨h, hx⟩ | h | h | h
    · rw [if_pos ⟨h, hx⟩, if_pos ⟨h, hx⟩]
      exact rcore_12_l (D 0) (D 1) ss ch raw (L 0) (L 1) (L 2) (L 3) (L 4) (L 5) (L 6) (L 7) fair w hr hch hS hO hl hL0 hL1 hf0 hf1 h0 h (by omega)
    · rw [if_neg (fun e => hx e.2), if_neg (fun e => hx e.2), if_neg (by omega), if_neg (by omega)]
      exact rcore_12_0 (D 0) (D 1) ss ch raw (L 0) (L 1) (L 2) (L 3) (L 4) (L 5) (L 6) (L 7) fair w hr hch hS hO hl hL0 hL1 hf0 hf1 h0 h (by omega)
    · rw [if_neg (by omega), if_neg (by omega), if_neg (by omega), if_neg (by omega)]
      exact rcore_12_1 (D 0) (D 1) ss ch raw (L 0) (L 1) (L 2) (L 3) (L 4) (L 5) (L 6) (L 7) fair w hr hch hS hO hl hL0 hL1 hf0 hf1 h0 h
    · rw [if_neg (by omega), if_neg (by omega), if_pos h]
      exact rcore_12_2 (D 0) (D 1) ss ch raw (L 0) (L 1) (L 2) (L 3) (L 4) (L 5) (L 6) (L 7) fair w hr hch hS hO hl hL0 hL1 hf0 hf1 h0 h
    · rw [if_neg (by omega), if_neg (by omega), if_neg (by omega), if_pos h]
      exact rcore_12_3 (D 0) (D 1) ss ch raw (L 0) (L 1) (L 2) (L 3) (L 4) (L 5) (L 6) (L 7) fair w hr hch hS hO hl hL0 hL1 hf0 hf1 h0 h
  · obtain rfl := empty_of h0
    rw [way_e, rest_e, if_neg (by omega), if_neg (by omega), if_neg (by omega), if_neg (by omega)]
    exact rcore_12_e (D 0) (D 1) ss ⟨#[]⟩ raw (L 0) (L 1) (L 2) (L 3) (L 4) (L 5) (L 6) (L 7) fair w hr hch hS hO hl hL0 hL1 hf0 hf1

theorem rpost_13 (D : Nat → Value) (ss : List ByteArray) (ch raw : ByteArray) (L : Nat → Int) (fair : Int) (w : World) (hr : raw.size ≤ 65536) (hch : ch.size ≤ 9223372036854775807)
    (hS : Strs w w.heap.size (D 1) ss) (hO : ∃ A n c, D 0 = .slice A n c) (hl : ss.length ≤ 1000) (hL0 : 0 ≤ L 7) (hL1 : L 7 ≤ 1000) (hf0 : 1 ≤ fair) (hf1 : fair ≤ 8) :
    Calls Try.prog 16 #[skyV D ch L fair, .int .i64 1, .int .i64 3, .string raw] w
      (PostX w (D 1) (fun V => skyV (upd D 1 V) (restOf ch) (upd L 7 (postL ch (L 7) fair)) fair) (postD ch (L 7) fair ss raw)) := by
  unfold postD postL
  by_cases h0 : 0 < ch.size
  · rcases way_cases ch (L 7) fair with ⟨h, hx⟩ | ⟨h, hx⟩ | h | h | h
    · rw [if_pos ⟨h, hx⟩, if_pos ⟨h, hx⟩]
      exact rcore_13_l (D 0) (D 1) ss ch raw (L 0) (L 1) (L 2) (L 3) (L 4) (L 5) (L 6) (L 7) fair w hr hch hS hO hl hL0 hL1 hf0 hf1 h0 h (by omega)
    · rw [if_neg (fun e => hx e.2), if_neg (fun e => hx e.2), if_neg (by omega), if_neg (by omega)]
      exact rcore_13_0 (D 0) (D 1) ss ch raw (L 0) (L 1) (L 2) (L 3) (L 4) (L 5) (L 6) (L 7) fair w hr hch hS hO hl hL0 hL1 hf0 hf1 h0 h (by omega)
    · rw [if_neg (by omega), if_neg (by omega), if_neg (by omega), if_neg (by omega)]
      exact rcore_13_1 (D 0) (D 1) ss ch raw (L 0) (L 1) (L 2) (L 3) (L 4) (L 5) (L 6) (L 7) fair w hr hch hS hO hl hL0 hL1 hf0 hf1 h0 h
    · rw [if_neg (by omega), if_neg (by omega), if_pos h]
      exact rcore_13_2 (D 0) (D 1) ss ch raw (L 0) (L 1) (L 2) (L 3) (L 4) (L 5) (L 6) (L 7) fair w hr hch hS hO hl hL0 hL1 hf0 hf1 h0 h
    · rw [if_neg (by omega), if_neg (by omega), if_neg (by omega), if_pos h]
      exact rcore_13_3 (D 0) (D 1) ss ch raw (L 0) (L 1) (L 2) (L 3) (L 4) (L 5) (L 6) (L 7) fair w hr hch hS hO hl hL0 hL1 hf0 hf1 h0 h
  · obtain rfl := empty_of h0
    rw [way_e, rest_e, if_neg (by omega), if_neg (by omega), if_neg (by omega), if_neg (by omega)]
    exact rcore_13_e (D 0) (D 1) ss ⟨#[]⟩ raw (L 0) (L 1) (L 2) (L 3) (L 4) (L 5) (L 6) (L 7) fair w hr hch hS hO hl hL0 hL1 hf0 hf1

theorem rpost_any (to at_ : Nat) (hto : to < 2) (hat : at_ < 4) (D : Nat → Value) (ss : List ByteArray) (ch raw : ByteArray) (L : Nat → Int) (fair : Int) (w : World) (hr : raw.size ≤ 65536) (hch : ch.size ≤ 9223372036854775807)
    (hS : Strs w w.heap.size (D to) ss) (hO : ∃ A n c, D (1 - to) = .slice A n c) (hl : ss.length ≤ 1000) (hL0 : 0 ≤ L (4 * to + at_)) (hL1 : L (4 * to + at_) ≤ 1000) (hf0 : 1 ≤ fair) (hf1 : fair ≤ 8) :
    Calls Try.prog 16 #[skyV D ch L fair, .int .i64 to, .int .i64 at_, .string raw] w
      (PostX w (D to) (fun V => skyV (upd D to V) (restOf ch) (upd L (4 * to + at_) (postL ch (L (4 * to + at_)) fair)) fair) (postD ch (L (4 * to + at_)) fair ss raw)) := by
  have h1 : to = 0 ∨ to = 1 := by omega
  have h2 : at_ = 0 ∨ at_ = 1 ∨ at_ = 2 ∨ at_ = 3 := by omega
  rcases h1 with rfl | rfl <;> rcases h2 with rfl | rfl | rfl | rfl
  · exact rpost_00 D ss ch raw L fair w hr hch hS hO hl hL0 hL1 hf0 hf1
  · exact rpost_01 D ss ch raw L fair w hr hch hS hO hl hL0 hL1 hf0 hf1
  · exact rpost_02 D ss ch raw L fair w hr hch hS hO hl hL0 hL1 hf0 hf1
  · exact rpost_03 D ss ch raw L fair w hr hch hS hO hl hL0 hL1 hf0 hf1
  · exact rpost_10 D ss ch raw L fair w hr hch hS hO hl hL0 hL1 hf0 hf1
  · exact rpost_11 D ss ch raw L fair w hr hch hS hO hl hL0 hL1 hf0 hf1
  · exact rpost_12 D ss ch raw L fair w hr hch hS hO hl hL0 hL1 hf0 hf1
  · exact rpost_13 D ss ch raw L fair w hr hch hS hO hl hL0 hL1 hf0 hf1

end Go.Proofs.Ytgllojpeggmleaa
