/- The clients of layer 53, as plain data, and what the functions of the package do with them. -/
import Derived.Test.YtmdkfbmpenohiaaDoorBunA
import Derived.Test.YtmdkfbmpenohiaaDoorFrLaw
import Derived.Test.YtmdkfbmpenohiaaDoorShapes
namespace Go.Proofs.YtmdkfbmpenohiaaDoor.Y
open Go.RowKit
def beB (a b : ByteArray) : Bool := a.toList == b.toList
structure BV where
  nm : ByteArray
  ld : Int
  bs : Int
  wt : Int
  fl : Int
  ot : Int
structure QR where
  id : Int
  sv : ByteArray
  mt : ByteArray
  late : Int
  ms : List (ByteArray × ByteArray)
  sh : Int
  mg : List ByteArray
  att : Int
  bk : ByteArray
  st : Int
  nx : Int
  an : List ByteArray
  dn : Bool
  cd : Int
  tx : ByteArray
structure CL where
  bs : List BV
  ra : Int
  rb : Int
  rc : Int
  rk : Int
  tk : Int
  mo : Int
  gn : Int
  qs : List QR
  nx : Int
def QR.hd (q : QR) : HdV := ⟨q.sv, q.mt, q.late, q.ms⟩
def zReq : QR := ⟨0, emptyB, emptyB, 0, [], 0, [], 0, emptyB, 0, 0, [], false, 0, emptyB⟩
def zCli : CL := ⟨[], 0, 0, 0, 0, 0, 0, 0, [], 0⟩
def clk (n : Int) : Int := bndI n 1099511627776
def aftL (a b : Int) : Int := clk (clk a + clk b)
/-! backends -/
def nmC (c : UInt8) : Bool := decide ((97 ≤ c.toNat ∧ c.toNat ≤ 122) ∨ (48 ≤ c.toNat ∧ c.toNat ≤ 57))
def nmOk (s : ByteArray) : Bool := decide (1 ≤ s.size) && decide (s.size ≤ 40) && s.data.toList.all nmC
def bOk (b : BV) : Bool := cntB b.ld && cntB b.bs && cntB b.fl && decide (1 ≤ b.wt) && decide (b.wt ≤ 100) && decide (0 ≤ b.ot) && decide (b.ot ≤ 2199023255552)
def chkGo : Option ByteArray → List BV → Int
  | _, [] => 0
  | p, b :: r => if nmOk b.nm = false then 8 else if (match p with | some x => (Op.bytesLess b.nm.toList x.toList || b.nm.toList == x.toList) | none => false) = true then 11 else if bOk b = false then 1 else chkGo (some b.nm) r
def chkB (l : List BV) : Int := if 8 < l.length then 3 else chkGo none l
def ltB (a b : BV) : Bool := decide ((a.bs + a.ld) * b.wt < (b.bs + b.ld) * a.wt) || (decide ((a.bs + a.ld) * b.wt = (b.bs + b.ld) * a.wt) && decide (a.bs < b.bs))
def befL (now : Int) (a b : BV) : Bool := if (decide (a.ot ≤ now)) = (decide (b.ot ≤ now)) then ltB a b else decide (a.ot ≤ now)
def pickGo (now : Int) : List BV → Nat → Option (Nat × BV) → Option (Nat × BV)
  | [], _, b => b
  | x :: r, i, none => pickGo now r (i + 1) (some (i, x))
  | x :: r, i, some (k, b) => pickGo now r (i + 1) (if befL now x b = true then some (i, x) else some (k, b))
def pickL (now : Int) (l : List BV) : Option Nat := (pickGo (clk now) l 0 none).map (·.1)
def begB (b : BV) : BV := { b with bs := bndI (b.bs + 1) 1000000 }
def failC (code : Int) : Bool := decide (code = 12) || decide (code = 11) || decide (code = 13) || decide (code = 3)
def endB (code now : Int) (b : BV) : BV :=
  let n := bndI (b.bs - 1) 1000000
  if failC code = true then
    (let f := bndI (b.fl + 1) 1000000
     if 3 ≤ f then { b with bs := n, fl := f, ot := clk now + 1000 * 2 ^ (min (f - 3) 6).toNat } else { b with bs := n, fl := f })
  else if code = 0 then { b with bs := n, fl := 0 } else { b with bs := n }
def modB (f : BV → BV) : List BV → Nat → List BV
  | [], _ => []
  | b :: r, 0 => f b :: r
  | b :: r, k + 1 => b :: modB f r k
def finB (nm : ByteArray) : List BV → Nat → Option Nat
  | [], _ => none
  | b :: r, k => if beB b.nm nm = true then some k else finB nm r (k + 1)
/-! policies -/
def rchk (a b c k : Int) : Int := if a < 1 ∨ a > 10 ∨ b < 1 ∨ b > c ∨ c > 1099511627776 ∨ k < 0 ∨ k ≥ 16384 ∨ k % 2 ≠ 0 then 1 else 0
def paus (a b c k n : Int) : Int := if n < 1 ∨ rchk a b c k ≠ 0 then 0 else min (b * 2 ^ (min (n - 1) 64).toNat) c
def mayL (c : CL) (n code : Int) (safe : Bool) : Bool :=
  decide (rchk c.ra c.rb c.rc c.rk = 0) && decide (bchk c.tk c.mo c.gn = 0) && decide (1 ≤ n) && decide (n < c.ra) && decide (1 ≤ code) && decide (code ≤ 13) && decide ((c.rk / 2 ^ code.toNat) % 2 = 1) && (safe || decide (code = 12)) && decide (1000 ≤ c.tk)
/-! calls -/
def passL (q : QR) (now : Int) : Bool := decide (1 ≤ q.late) && decide (q.late ≤ now)
def finQ (id : Int) : List QR → Nat → Option Nat
  | [], _ => none
  | q :: r, k => if q.id = id then some k else finQ id r (k + 1)
def actL : List QR → List Int
  | [] => []
  | q :: r => if q.dn = true then actL r else q.id :: actL r
def newL (l : List BV) (a b c k t m g1 : Int) : CL × Int :=
  if chkB l ≠ 0 then (zCli, chkB l) else if l.length = 0 then (zCli, 1) else if rchk a b c k ≠ 0 then (zCli, rchk a b c k) else if bchk t m g1 ≠ 0 then (zCli, bchk t m g1) else (⟨l, a, b, c, k, t, m, g1, [], 1⟩, 0)
def permL (n least most : Int) : Bool := decide (least ≤ n) && (decide (most < 0) || decide (n ≤ most))
def otherL (q : QR) : Bool := !(decide (q.id = 0) && decide (q.att = 0) && decide (q.bk.size = 0) && decide (q.st = 0) && decide (q.nx = 0) && decide (q.an.length = 0) && !q.dn && decide (q.cd = 0) && decide (q.tx.size = 0))
def longL (l : List ByteArray) : Bool := l.any fun m => decide (16384 < m.size)
def freshL (c : CL) (q : QR) : Int :=
  if otherL q = true ∨ c2 q.sh = 0 ∨ permL q.mg.length (c1 q.sh) (c2 q.sh) = false then 1 else if headE q.hd ≠ 0 then headE q.hd else if longL q.mg = true then 3 else if 64 ≤ (actL c.qs).length ∨ 2147483647 < c.nx then 22 else 0
def madeL (c : CL) (now : Int) (q : QR) : QR :=
  let x := { q with id := c.nx, nx := clk now }
  if passL x (clk now) = true then { x with dn := true, cd := 3, tx := emptyB } else x
def callL (c : CL) (now : Int) (q : QR) : CL × Int × Int :=
  if freshL c q ≠ 0 then (c, 0, freshL c q) else ({ c with qs := c.qs ++ [madeL c now q], nx := c.nx + 1 }, c.nx, 0)
def dueL (now : Int) (q : QR) : Bool := !(q.dn || !decide (q.bk.size = 0) || decide (now < q.nx) || passL q now)
structure SG where
  qs : List QR
  bs : List BV
  tk : Int
  out : List QR
/-- one call that is due. -/
def begQ (bs : List BV) (k : Nat) (q : QR) : QR := { q with bk := (match bs[k]? with | some b => b.nm | none => emptyB), att := q.att + 1 }
def startGo (now mo gn : Int) : List QR → List BV → Int → SG
  | [], bs, tk => ⟨[], bs, tk, []⟩
  | q :: r, bs, tk =>
    match (if dueL now q = true then pickL now bs else none) with
    | none => let s := startGo now mo gn r bs tk; ⟨q :: s.qs, s.bs, s.tk, s.out⟩
    | some k =>
      let s := startGo now mo gn r (modB begB bs k) (if q.att + 1 = 1 then bfst tk mo gn else tk)
      ⟨begQ bs k q :: s.qs, s.bs, s.tk, begQ bs k q :: s.out⟩
def startL (c : CL) (now : Int) : CL × List QR :=
  let s := startGo (clk now) c.mo c.gn c.qs c.bs c.tk
  ({ c with qs := s.qs, bs := s.bs, tk := s.tk }, s.out)
def runE (c : CL) (id : Int) : Int := match finQ id c.qs 0 with
  | none => 10
  | some i => match c.qs[i]? with
    | none => 10
    | some q => if q.bk.size = 0 then 20 else 0
def runI (c : CL) (id : Int) : Nat := if runE c id = 0 then (finQ id c.qs 0).getD 0 else 0
def setQ (c : CL) (i : Nat) (f : QR → QR) : CL := { c with qs := c.qs.modify i f }
def atQ (c : CL) (i : Nat) : QR := c.qs.getD i zReq
def sentL (c : CL) (id st : Int) : CL × Int :=
  if runE c id ≠ 0 then (c, runE c id) else if (atQ c (runI c id)).st ≠ 0 then (c, 20) else if st < 1 ∨ 2147483647 < st then (c, 1) else (setQ c (runI c id) (fun q => { q with st := st }), 0)
def recvL (c : CL) (id : Int) (m : ByteArray) : CL × Int :=
  if runE c id ≠ 0 then (c, runE c id) else if 16384 < m.size then (c, 3) else if 0 ≤ c4 (atQ c (runI c id)).sh ∧ c4 (atQ c (runI c id)).sh ≤ (atQ c (runI c id)).an.length then (c, 11) else (setQ c (runI c id) (fun q => { q with an := q.an ++ [m] }), 0)
def stopL (c : CL) (i : Nat) (code now : Int) : CL :=
  let q := atQ c i
  if q.bk.size = 0 then c else
    setQ { c with bs := match finB q.bk c.bs 0 with | some k => modB (endB code now) c.bs k | none => c.bs } i (fun q => { q with bk := emptyB, st := 0 })
def agaAt (c : CL) (q : QR) (now : Int) : Int := aftL now (paus c.ra c.rb c.rc c.rk q.att)
def agaOk (c : CL) (q : QR) (now code : Int) (safe : Bool) : Bool :=
  mayL c q.att code safe && decide (q.an.length = 0) && !(decide (1 ≤ q.late) && decide (q.late ≤ agaAt c q now)) && decide (btkE c.tk c.mo c.gn = 0)
def endC (c : CL) (now id code : Int) (tx : ByteArray) (safe : Bool) : CL × Int :=
  if runE c id ≠ 0 then (c, runE c id) else if checkS code tx ≠ 0 then (c, checkS code tx) else
    let i := runI c id
    let d := stopL c i code (clk now)
    let q := atQ d i
    if agaOk d q (clk now) code safe = true then (setQ { d with tk := btk d.tk d.mo d.gn } i (fun q => { q with nx := agaAt d q (clk now) }), 0)
    else (setQ d i (fun q => { q with dn := true, cd := code, tx := tx }), 0)
def finiL (c : CL) (i : Nat) (code now : Int) : CL := setQ (stopL c i code now) i (fun q => { q with dn := true, cd := code, tx := emptyB })
def cancL (c : CL) (now id : Int) : CL × Int := match finQ id c.qs 0 with
  | none => (c, 10)
  | some i => if (atQ c i).dn = true then (c, 20) else (finiL c i 1 (clk now), 0)
def expGo (now : Int) : Nat → Nat → CL → CL × List Int
  | 0, _, c => (c, [])
  | n + 1, i, c =>
    let q := atQ c i
    if q.dn = false ∧ passL q now = true then (let r := expGo now n (i + 1) (finiL c i 3 now); (r.1, q.id :: r.2)) else expGo now n (i + 1) c
def expiL (c : CL) (now : Int) : CL × List Int := expGo (clk now) c.qs.length 0 c
def findL (c : CL) (id : Int) : QR × Bool := match finQ id c.qs 0 with
  | none => (zReq, false)
  | some i => (atQ c i, true)
end Go.Proofs.YtmdkfbmpenohiaaDoor.Y
