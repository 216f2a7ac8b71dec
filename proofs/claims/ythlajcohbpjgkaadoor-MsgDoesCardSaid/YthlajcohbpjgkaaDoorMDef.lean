/-
  Messages, plainly.
-/
import Derived.Test.YthlajcohbpjgkaaDoorVLaw
namespace Go.Proofs.YthlajcohbpjgkaaDoor
open Go.RowKit Go.Proofs.Mem
set_option linter.unusedVariables false

structure MsgL where
  kind : Int
  name : ByteArray
  root : ByteArray
  keys : List ByteArray
  objs : List (ByteArray × ByteArray)
  err : Int
deriving DecidableEq
/-- A text with its length ahead. -/
def putT (s : ByteArray) : ByteArray := putB s.size ++ s
def nameB (s : ByteArray) : Bool := decide (s.size ≠ 0) && (decide (s.size ≤ 31) && (decide (s ≠ ⟨#[46]⟩) && (decide (s ≠ ⟨#[46, 46]⟩) && s.data.toList.all fun b => decide (b ≠ 0) && decide (b ≠ 47))))

def bareL (m : MsgL) : MsgL :=
  if m.kind = 1 then ⟨m.kind, m.name, m.root, [], [], 0⟩
  else if m.kind = 2 then ⟨m.kind, ⟨#[]⟩, ⟨#[]⟩, m.keys, [], 0⟩
  else if m.kind = 3 then ⟨m.kind, ⟨#[]⟩, ⟨#[]⟩, [], m.objs, 0⟩
  else ⟨m.kind, ⟨#[]⟩, ⟨#[]⟩, [], [], m.err⟩
def fitL (m : MsgL) : Bool := decide (m = bareL m) &&
  (if m.kind = 1 then nameB m.name && decide (m.root.size = 32)
   else if m.kind = 2 then m.keys.all (fun k => decide (k.size = 32)) && decide (1 ≤ m.keys.length ∧ m.keys.length ≤ 4)
   else if m.kind = 3 then m.objs.all (fun x => decide (x.1.size = 32 ∧ x.2.size ≤ 40000)) && decide (1 ≤ m.objs.length ∧ m.objs.length ≤ 4)
   else decide (m.kind = 4 ∧ 0 ≤ m.err ∧ m.err ≤ 19))
def catB (l : List ByteArray) : ByteArray := l.foldl (· ++ ·) ⟨#[]⟩
def writeL (m : MsgL) : ByteArray := if fitL m = false then ⟨#[]⟩ else
  ⟨#[UInt8.ofNat m.kind.toNat]⟩ ++
  (if m.kind = 1 then putT m.name ++ m.root
   else if m.kind = 4 then putB m.err.toNat
   else putB (m.keys.length + m.objs.length) ++ catB m.keys ++ catB (m.objs.map fun x => x.1 ++ putT x.2))

end Go.Proofs.YthlajcohbpjgkaaDoor
