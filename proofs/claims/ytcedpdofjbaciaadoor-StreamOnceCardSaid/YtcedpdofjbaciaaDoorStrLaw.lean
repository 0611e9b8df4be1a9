/- Streams, plain: what Open, Valid, Send, Receive and End answer. No program in sight. -/
import Derived.Test.YtcedpdofjbaciaaDoorWin
import Derived.Test.YtcedpdofjbaciaaDoorFrLaw
import Derived.Test.YtcedpdofjbaciaaDoorShapes
namespace Go.Proofs.YtcedpdofjbaciaaDoor
open Go
structure StV where
  id : Int
  side : Int
  shape : Int
  sent : Int
  got : Int
  se : Bool
  ge : Bool
  done : Bool
  code : Int
  text : ByteArray
  snd : WinV
  rcv : WinV
def topS (n : Int) : Int := if n < 0 then 4611686018427387904 else n
def reqN (s : StV) : Int := if s.side = 1 then s.sent else s.got
def resN (s : StV) : Int := if s.side = 1 then s.got else s.sent
def reqE (s : StV) : Bool := if s.side = 1 then s.se else s.ge
def resE (s : StV) : Bool := if s.side = 1 then s.ge else s.se
def headOk (s : StV) : Bool := decide (1 ≤ s.id ∧ s.id ≤ 2147483647 ∧ (s.side = 1 ∨ s.side = 2)) && isS s.shape
def numsOk (s : StV) : Bool := winOk s.snd && winOk s.rcv && decide (0 ≤ reqN s ∧ reqN s ≤ topS (c2 s.shape) ∧ 0 ≤ resN s ∧ resN s ≤ topS (c4 s.shape))
def endOk (s : StV) : Bool := if s.done = true then s.se && s.ge && decide (checkS s.code s.text = 0) else !resE s && (!reqE s || decide (c1 s.shape ≤ reqN s)) && decide (s.code = 0) && decide (s.text.size = 0)
def validT (s : StV) : Bool := headOk s && numsOk s && endOk s
def zeroT : StV := ⟨0, 0, 0, 0, 0, false, false, false, 0, ⟨#[]⟩, ⟨0, 0, 0⟩, ⟨0, 0, 0⟩⟩
structure StR where
  st : StV
  err : Int
def openT (id side shape size : Int) : StR := if id < 1 ∨ 2147483647 < id ∨ (side ≠ 1 ∧ side ≠ 2) ∨ isS shape = false ∨ (newW size).err ≠ 0 then ⟨zeroT, 1⟩
  else ⟨⟨id, side, shape, 0, 0, false, false, false, 0, ⟨#[]⟩, (newW size).win, (newW size).win⟩, 0⟩
def costT (d : ByteArray) : Int := if d.size < 1 then 1 else d.size
def doneT (s : StV) (c : Int) (t : ByteArray) : StV := { s with se := true, ge := true, done := true, code := c, text := t }
def closeT (s : StV) (f : FrV) : StV := if f.kind = 5 then doneT s f.num ⟨#[]⟩ else doneT s (unpackS f.data).code (unpackS f.data).text
def earlyT (s : StV) : Bool := decide (reqN s < c1 s.shape) || decide (resN s < c3 s.shape) || ((s.shape == 1 || s.shape == 3) && !reqE s)
/-- the greatest number of messages that the client, or the server, sends. -/
def mostT (s : StV) (client : Bool) : Int := topS (if client = true then c2 s.shape else c4 s.shape)
def sendT (s : StV) (f : FrV) : StR :=
  if validT s = false ∨ frameE f ≠ 0 ∨ f.strm ≠ s.id then ⟨s, 1⟩
  else if f.kind = 2 then
    if s.done = true ∨ s.se = true then ⟨s, 20⟩ else if mostT s (s.side == 1) ≤ s.sent then ⟨s, 11⟩ else if s.snd.size < costT f.data then ⟨s, 3⟩
    else if (takeW s.snd (costT f.data)).err ≠ 0 then ⟨s, (takeW s.snd (costT f.data)).err⟩ else ⟨{ s with sent := s.sent + 1, snd := (takeW s.snd (costT f.data)).win }, 0⟩
  else if f.kind = 3 then
    if s.done = true ∨ s.se = true ∨ s.side ≠ 1 then ⟨s, 20⟩ else if s.sent < c1 s.shape then ⟨s, 11⟩ else ⟨{ s with se := true }, 0⟩
  else if f.kind = 4 then
    if s.done = true ∨ s.side = 1 then ⟨s, 20⟩ else if (unpackS f.data).code = 0 ∧ earlyT s = true then ⟨s, 11⟩ else ⟨closeT s f, 0⟩
  else if f.kind = 5 then (if s.done = true then ⟨s, 20⟩ else ⟨closeT s f, 0⟩)
  else ⟨s, 1⟩
def recvT (s : StV) (f : FrV) : StR :=
  if validT s = false ∨ frameE f ≠ 0 ∨ f.strm ≠ s.id ∨ (f.kind < 2 ∨ 6 < f.kind) then ⟨s, 1⟩
  else if s.done = true then ⟨s, 0⟩
  else if f.kind = 2 then
    if s.ge = true then ⟨s, 20⟩ else if mostT s (s.side != 1) ≤ s.got then ⟨s, 11⟩ else if s.rcv.size < costT f.data then ⟨s, 3⟩
    else if (acceptW s.rcv (costT f.data)).err ≠ 0 then ⟨s, (acceptW s.rcv (costT f.data)).err⟩ else ⟨{ s with got := s.got + 1, rcv := (acceptW s.rcv (costT f.data)).win }, 0⟩
  else if f.kind = 3 then
    if s.ge = true ∨ s.side = 1 then ⟨s, 20⟩ else if s.got < c1 s.shape then ⟨s, 11⟩ else ⟨{ s with ge := true }, 0⟩
  else if f.kind = 4 then
    if s.side ≠ 1 then ⟨s, 20⟩ else if (unpackS f.data).code = 0 ∧ earlyT s = true then ⟨s, 11⟩ else ⟨closeT s f, 0⟩
  else if f.kind = 5 then ⟨closeT s f, 0⟩
  else if (giveW s.snd f.num).err ≠ 0 then ⟨s, (giveW s.snd f.num).err⟩ else ⟨{ s with snd := (giveW s.snd f.num).win }, 0⟩
def endT (s : StV) (c : Int) (t : ByteArray) : StV := if s.done = true ∨ validT s = false ∨ checkS c t ≠ 0 then s else doneT s c t
end Go.Proofs.YtcedpdofjbaciaaDoor
