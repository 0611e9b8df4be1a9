/- Texts of this claim merged into one: KWin, KShapes, KStrLaw, KConD, KConR. -/
import Derived.Test.YtklcfjlmlbnkaaaGreatDoorChecked
import Derived.WalkKit
import Derived.WalkSpells
import Derived.WalkLawsBesides
import Derived.Test.YtklcfjlmlbnkaaaGreatDoorKBunS
import Derived.Test.YtklcfjlmlbnkaaaGreatDoorKBunT
import Derived.Test.YtklcfjlmlbnkaaaGreatDoorKBunE
namespace Go.Proofs.YtklcfjlmlbnkaaaGreatDoor
open Go
structure WinV where
  size : Int
  left : Int
  held : Int
def aS (w : WinV) : Bool := decide (1 ≤ w.size ∧ w.size ≤ 1048576 ∧ 0 ≤ w.left ∧ 0 ≤ w.held ∧ w.left ≤ 1048576 ∧ w.left + w.held ≤ 1048576)
structure ui where
  win : WinV
  err : Int
def cS (w : WinV) (n : Int) : ui := if aS w = false ∨ n < 0 then ⟨w, 1⟩ else if w.left < n then ⟨w, 22⟩ else ⟨⟨w.size, w.left - n, w.held⟩, 0⟩
def bo (w : WinV) (n : Int) : ui := if aS w = false ∨ n < 0 then ⟨w, 1⟩ else if w.left < n then ⟨w, 22⟩ else ⟨⟨w.size, w.left - n, w.held + n⟩, 0⟩
def cC (w : WinV) (n : Int) : ui := if aS w = false ∨ n < 1 then ⟨w, 1⟩ else if 1048576 - w.left - w.held < n then ⟨w, 6⟩ else ⟨⟨w.size, w.left + n, w.held⟩, 0⟩
def jT (n : Int) : ui := if n < 1 ∨ 1048576 < n then ⟨⟨0, 0, 0⟩, 1⟩ else ⟨⟨n, n, 0⟩, 0⟩
end Go.Proofs.YtklcfjlmlbnkaaaGreatDoor
namespace Go.Proofs.YtklcfjlmlbnkaaaGreatDoor
open Go.RowKit
def HD (s : Int) : Bool := s == 3 || s == 4
def Fv (s : Int) : Bool := s == 2 || s == 4
def sU (s : Int) : Bool := decide (1 ≤ s) && decide (s ≤ 4)
def c1 (s : Int) : Int := if sU s then (if HD s then 0 else 1) else 0
def c2 (s : Int) : Int := if sU s then (if HD s then -1 else 1) else 0
def c3 (s : Int) : Int := if sU s then (if Fv s then 0 else 1) else 0
def c4 (s : Int) : Int := if sU s then (if Fv s then -1 else 1) else 0
theorem mv {fn : Func} {a b c d : Tmp} (h : fn.results = #[.tmp a, .tmp b, .tmp c, .tmp d]) (tmps : Array Value) (P : Program) (w : World) :
    (results fn tmps).run P w = .ok (.tuple #[tmps.getD a undef, tmps.getD b undef, tmps.getD c undef, tmps.getD d undef]) w := by
  simp [results, h]
theorem ze {s : Int} (h : sU s = true) : s = 1 ∨ s = 2 ∨ s = 3 ∨ s = 4 := by simp [sU] at h; omega
theorem DO (s : Int) (w : World) : Calls Tryz.prog 123 #[.int .i64 s] w fun e w' => e = .returned (.bool (sU s)) ∧ w = w' := by
  go_enter Tryz.func123, Tryz.ntmps123
  go_wp2
  all_goals (go_ret; exact ⟨by simp [sU] <;> omega, rfl⟩)
theorem counts (s : Int) (w : World) : Calls Tryz.prog 101 #[.int .i64 s] w fun e w' => e = .returned (.tuple #[.int .i64 (c1 s), .int .i64 (c2 s), .int .i64 (c3 s), .int .i64 (c4 s)]) ∧ w = w' := by
  by_cases hs : sU s = true
  · rcases ze hs with rfl | rfl | rfl | rfl
    all_goals
      clear hs
      go_enter Tryz.func101, Tryz.ntmps101
      go_wp2
      refine bodyPost_ret (mv rfl _ _ _) rfl ⟨?_, rfl⟩
      simp [c1, c2, c3, c4, sU, HD, Fv]
  · have hn : sU s = false := by simpa using hs
    clear hs
    go_enter Tryz.func101, Tryz.ntmps101
    go_wp2_with (go_at_call 123; refine (DO _ _).mono ?_; rintro e w' ⟨rfl, rfl⟩)
    refine bodyPost_ret (mv rfl _ _ _) rfl ⟨?_, rfl⟩
    simp [c1, c2, c3, c4, hn]
end Go.Proofs.YtklcfjlmlbnkaaaGreatDoor
namespace Go.Proofs.YtklcfjlmlbnkaaaGreatDoor
open Go
structure StV where
  id : Int
  side : Int
  shape : Int
  sent : Int
  got : Int
  se : Bool
  ge : Bool
  done : Bool
  code : Int
  text : ByteArray
  snd : WinV
  rcv : WinV
def li (n : Int) : Int := if n < 0 then 4611686018427387904 else n
def jA (s : StV) : Int := if s.side = 1 then s.sent else s.got
def ng (s : StV) : Int := if s.side = 1 then s.got else s.sent
def rZ (s : StV) : Bool := if s.side = 1 then s.se else s.ge
def uj (s : StV) : Bool := if s.side = 1 then s.ge else s.se
def wn (s : StV) : Bool := decide (1 ≤ s.id ∧ s.id ≤ 2147483647 ∧ (s.side = 1 ∨ s.side = 2)) && sU s.shape
def sg (s : StV) : Bool := aS s.snd && aS s.rcv && decide (0 ≤ jA s ∧ jA s ≤ li (c2 s.shape) ∧ 0 ≤ ng s ∧ ng s ≤ li (c4 s.shape))
def Bl (s : StV) : Bool := if s.done = true then s.se && s.ge && decide (bF s.code s.text = 0) else !uj s && (!rZ s || decide (c1 s.shape ≤ jA s)) && decide (s.code = 0) && decide (s.text.size = 0)
def df (s : StV) : Bool := wn s && sg s && Bl s
def Bm : StV := ⟨0, 0, 0, 0, 0, false, false, false, 0, ⟨#[]⟩, ⟨0, 0, 0⟩, ⟨0, 0, 0⟩⟩
structure C9 where
  st : StV
  err : Int
def dq (id side shape size : Int) : C9 := if id < 1 ∨ 2147483647 < id ∨ (side ≠ 1 ∧ side ≠ 2) ∨ sU shape = false ∨ (jT size).err ≠ 0 then ⟨Bm, 1⟩
  else ⟨⟨id, side, shape, 0, 0, false, false, false, 0, ⟨#[]⟩, (jT size).win, (jT size).win⟩, 0⟩
def au (d : ByteArray) : Int := if d.size < 1 then 1 else d.size
def dN (s : StV) (c : Int) (t : ByteArray) : StV := { s with se := true, ge := true, done := true, code := c, text := t }
def eg (s : StV) (f : FrV) : StV := if f.kind = 5 then dN s f.num ⟨#[]⟩ else dN s (aV f.data).code (aV f.data).text
def iL (s : StV) : Bool := decide (jA s < c1 s.shape) || decide (ng s < c3 s.shape) || ((s.shape == 1 || s.shape == 3) && !rZ s)
def jb (s : StV) (client : Bool) : Int := li (if client = true then c2 s.shape else c4 s.shape)
def bh (s : StV) (f : FrV) : C9 :=
  if df s = false ∨ ay f ≠ 0 ∨ f.strm ≠ s.id then ⟨s, 1⟩
  else if f.kind = 2 then
    if s.done = true ∨ s.se = true then ⟨s, 20⟩ else if jb s (s.side == 1) ≤ s.sent then ⟨s, 11⟩ else if s.snd.size < au f.data then ⟨s, 3⟩
    else if (cS s.snd (au f.data)).err ≠ 0 then ⟨s, (cS s.snd (au f.data)).err⟩ else ⟨{ s with sent := s.sent + 1, snd := (cS s.snd (au f.data)).win }, 0⟩
  else if f.kind = 3 then
    if s.done = true ∨ s.se = true ∨ s.side ≠ 1 then ⟨s, 20⟩ else if s.sent < c1 s.shape then ⟨s, 11⟩ else ⟨{ s with se := true }, 0⟩
  else if f.kind = 4 then
    if s.done = true ∨ s.side = 1 then ⟨s, 20⟩ else if (aV f.data).code = 0 ∧ iL s = true then ⟨s, 11⟩ else ⟨eg s f, 0⟩
  else if f.kind = 5 then (if s.done = true then ⟨s, 20⟩ else ⟨eg s f, 0⟩)
  else ⟨s, 1⟩
def bp (s : StV) (f : FrV) : C9 :=
  if df s = false ∨ ay f ≠ 0 ∨ f.strm ≠ s.id ∨ (f.kind < 2 ∨ 6 < f.kind) then ⟨s, 1⟩
  else if s.done = true then ⟨s, 0⟩
  else if f.kind = 2 then
    if s.ge = true then ⟨s, 20⟩ else if jb s (s.side != 1) ≤ s.got then ⟨s, 11⟩ else if s.rcv.size < au f.data then ⟨s, 3⟩
    else if (bo s.rcv (au f.data)).err ≠ 0 then ⟨s, (bo s.rcv (au f.data)).err⟩ else ⟨{ s with got := s.got + 1, rcv := (bo s.rcv (au f.data)).win }, 0⟩
  else if f.kind = 3 then
    if s.ge = true ∨ s.side = 1 then ⟨s, 20⟩ else if s.got < c1 s.shape then ⟨s, 11⟩ else ⟨{ s with ge := true }, 0⟩
  else if f.kind = 4 then
    if s.side ≠ 1 then ⟨s, 20⟩ else if (aV f.data).code = 0 ∧ iL s = true then ⟨s, 11⟩ else ⟨eg s f, 0⟩
  else if f.kind = 5 then ⟨eg s f, 0⟩
  else if (cC s.snd f.num).err ≠ 0 then ⟨s, (cC s.snd f.num).err⟩ else ⟨{ s with snd := (cC s.snd f.num).win }, 0⟩
def uk (s : StV) (c : Int) (t : ByteArray) : StV := if s.done = true ∨ df s = false ∨ bF c t ≠ 0 then s else dN s c t
end Go.Proofs.YtklcfjlmlbnkaaaGreatDoor
namespace Go.Proofs.YtklcfjlmlbnkaaaGreatDoor.Y
structure KR where
  st : StV
  sv : ByteArray
  mt : ByteArray
  lt : Int
  ms : List (ByteArray × ByteArray)
  ib : List ByteArray
  ob : List FrV
def KR.hd (k : KR) : jU := ⟨k.sv, k.mt, k.lt, k.ms⟩
structure NL where
  sd : Int
  nx : Int
  la : Int
  aw : Int
  sz : Int
  sw : WinV
  rw : WinV
  ks : List KR
  ou : List FrV
  pg : List Int
  cl : Bool
def GQ : WinV := ⟨0, 0, 0⟩
def IQ : NL := ⟨0, 0, 0, 0, 0, GQ, GQ, [], [], [], false⟩
def Ib : KR := ⟨Bm, emptyB, emptyB, 0, [], [], []⟩
def jN (sd sz : Int) : NL × Int := if (sd ≠ 1 ∧ sd ≠ 2) ∨ (jT sz).err ≠ 0 then (IQ, 1) else (⟨sd, 1, 0, 0, sz, (jT sz).win, (jT sz).win, [], [], [], false⟩, 0)
def dj (id : Int) : List KR → Nat → Option Nat
  | [], _ => none
  | k :: r, i => if k.st.id = id then some i else dj id r (i + 1)
def mK (c : NL) (i : Nat) : KR := (c.ks[i]?).getD Ib
def eZ (c : NL) (i : Nat) (g : KR → KR) : NL := { c with ks := c.ks.set i (g (mK c i)) }
def aN : List ByteArray → Int
  | [] => 0
  | s :: r => au s + aN r
def aP : List KR → Int
  | [] => 0
  | k :: r => aN k.ib + aP r
def dO (l : List KR) : Nat := l.countP fun k => !k.st.done
def zf (w : WinV) : Int := if aS w = false ∨ w.held = 0 ∨ 2 * w.held < w.size then 0 else w.held
def db (w : WinV) (u : Int) : Int := if u = 0 then w.held else zf ⟨w.size, w.left, w.held - u⟩
def wo (w : WinV) (n : Int) : WinV := ⟨w.size, w.left + n, w.held - n⟩
def gbC (c : NL) : NL := if c.cl = true ∨ db c.rw (aP c.ks) ≤ 0 then c else { c with rw := wo c.rw (db c.rw (aP c.ks)), ou := c.ou ++ [⟨6, 0, db c.rw (aP c.ks), emptyB⟩] }
def ul (c : NL) (i : Nat) : Int := db (mK c i).st.rcv (aN (mK c i).ib)
def gbK (c : NL) (i : Nat) (id : Int) : NL := if c.cl = true ∨ ul c i ≤ 0 then c else { eZ c i (fun k => { k with st := { k.st with rcv := wo k.st.rcv (ul c i) } }) with ou := c.ou ++ [⟨6, id, ul c i, emptyB⟩] }
def eV (k : KR) : KR := if k.st.done = true then { k with ob := [] } else k
def bE (f : FrV) : Int := if f.kind = 2 then au f.data else 0
structure HJ where
  st : StV
  w : WinV
  ob : List FrV
  ou : List FrV
def jO : List FrV → StV → WinV → List FrV → HJ
  | [], s, w, o => ⟨s, w, [], o⟩
  | f :: r, s, w, o =>
    if s.snd.left < bE f ∨ w.left < bE f then ⟨s, w, f :: r, o⟩
    else if (bh s f).err ≠ 0 then ⟨s, w, f :: r, o⟩
    else if (cS w (bE f)).err ≠ 0 then ⟨s, w, f :: r, o⟩
    else if (bh s f).st.done = true then ⟨(bh s f).st, (cS w (bE f)).win, [], o ++ [f]⟩
    else jO r (bh s f).st (cS w (bE f)).win (o ++ [f])
def wq (c : NL) (i : Nat) : HJ := jO (mK c i).ob (mK c i).st c.sw c.ou
def gu (c : NL) (i : Nat) : NL := { eZ c i (fun k => { k with st := (wq c i).st, ob := (wq c i).ob }) with sw := (wq c i).w, ou := (wq c i).ou }
def ei (s : StV) : StV := { s with snd := ⟨s.snd.size, 1048576, s.snd.held⟩ }
def dF : List FrV → StV → C9
  | [], s => ⟨ei s, 0⟩
  | f :: r, s => if (bh (ei s) f).err ≠ 0 then ⟨ei s, (bh (ei s) f).err⟩ else dF r (bh (ei s) f).st
def um (h : jU) : ByteArray := ⟨(jL h).bytes.toArray⟩
def jP (c : NL) (h : jU) (sh : Int) : FrV := ⟨1, c.nx, sh, um h⟩
def oZ (c : NL) (h : jU) (sh : Int) : Int :=
  if c.sd ≠ 1 ∨ c.cl = true ∨ c.aw ≠ 0 then 20 else if 64 ≤ dO c.ks then 22 else if bQ h ≠ 0 then bQ h
  else if ay (jP c h sh) ≠ 0 then ay (jP c h sh) else (dq c.nx 1 sh c.sz).err
def cu (c : NL) (h : jU) (sh : Int) : NL × Int × Int :=
  if oZ c h sh ≠ 0 then (c, 0, oZ c h sh)
  else ({ c with ks := c.ks ++ [⟨(dq c.nx 1 sh c.sz).st, h.svc, h.mth, h.late, h.metas, [], []⟩], ou := c.ou ++ [jP c h sh], la := c.nx, nx := c.nx + 1 }, c.nx, 0)
def mw (c : NL) (f : FrV) (chk : Int) : Int := match dj f.strm c.ks 0 with
  | none => 10
  | some i => if chk ≠ 0 then chk else if (dF (mK c i).ob (mK c i).st).err ≠ 0 then (dF (mK c i).ob (mK c i).st).err else (bh (dF (mK c i).ob (mK c i).st).st f).err
def eP (c : NL) (f : FrV) (chk : Int) : NL × Int :=
  if mw c f chk ≠ 0 then (c, mw c f chk) else (gu (eZ c ((dj f.strm c.ks 0).getD 0) (fun k => { k with ob := k.ob ++ [f] })) ((dj f.strm c.ks 0).getD 0), 0)
def qS (c : NL) (msg : ByteArray) : Int := if 16384 < msg.size ∨ c.sz < au msg then 3 else 0
def fD (c : NL) (id : Int) (msg : ByteArray) : NL × Int := eP c ⟨2, id, 0, msg⟩ (qS c msg)
def EQ (c : NL) (id : Int) : NL × Int := eP c ⟨3, id, 0, emptyB⟩ 0
def ER (c : NL) (id code : Int) (tx : ByteArray) : NL × Int := eP c ⟨4, id, 0, GK code tx⟩ (bF code tx)
def xM (c : NL) (id code : Int) : Int := match dj id c.ks 0 with
  | none => 10
  | some i => (bh (mK c i).st ⟨5, id, code, emptyB⟩).err
def uo (c : NL) (id code : Int) : NL × Int :=
  if xM c id code ≠ 0 then (c, xM c id code)
  else ({ eZ c ((dj id c.ks 0).getD 0) (fun k => eV { k with st := (bh k.st ⟨5, id, code, emptyB⟩).st }) with ou := c.ou ++ [⟨5, id, code, emptyB⟩] }, 0)
def aG (c : NL) (id : Int) : NL × ByteArray × Bool := match dj id c.ks 0 with
  | none => (c, emptyB, false)
  | some i => match (mK c i).ib with
    | [] => (c, emptyB, false)
    | s :: r => (gbC (if (mK c i).st.done = true then eZ c i (fun k => { k with ib := r }) else gbK (eZ c i (fun k => { k with ib := r })) i id), s, true)
def gX (c : NL) : NL × List FrV := ({ c with ou := [] }, c.ou)
def uq (c : NL) (n : Int) : NL × Int := if c.cl = true then (c, 20) else if ay ⟨7, 0, n, emptyB⟩ ≠ 0 then (c, ay ⟨7, 0, n, emptyB⟩) else ({ c with ou := c.ou ++ [⟨7, 0, n, emptyB⟩] }, 0)
def xN (c : NL) : NL := if c.sd = 2 ∧ c.cl = false ∧ c.aw = 0 then { c with ou := c.ou ++ [⟨9, 0, c.la, emptyB⟩], aw := c.la + 1 } else c
def fS (above : Int) (k : KR) : KR := if k.st.done = false ∧ above < k.st.id then eV { k with st := uk k.st 12 emptyB } else k
def ur (c : NL) (above : Int) : NL := { c with ks := c.ks.map (fS above) }
def lu (c : NL) : NL := ur { c with cl := true, ou := [] } 0
def xO (c : NL) (id : Int) : NL := match dj id c.ks 0 with
  | none => c
  | some i => if (mK c i).st.done = false then c else gbC { c with ks := c.ks.eraseIdx i }
def ut (sd k : Int) : Bool := if sd = 2 then k == 4 || k == 9 else k == 1 || k == 3
def lj (c : NL) (f : FrV) : Int :=
  if ay f ≠ 0 ∨ ut c.sd f.kind = true then 1
  else if (f.kind = 1) = (f.strm ≤ c.la) then 11
  else if f.kind = 2 ∧ c.rw.left < au f.data then 22
  else if f.kind = 6 ∧ f.strm = 0 ∧ (cC c.sw f.num).err ≠ 0 then 6 else 0
def jd (c : NL) (f : FrV) : NL :=
  if c.aw ≠ 0 ∨ 64 ≤ dO c.ks ∨ (dq f.strm 2 f.num c.sz).err ≠ 0 ∨ (cM f.data).err ≠ 0 then { c with la := f.strm, ou := c.ou ++ [⟨5, f.strm, 12, emptyB⟩] }
  else { c with la := f.strm, ks := c.ks ++ [⟨(dq f.strm 2 f.num c.sz).st, (cM f.data).head.svc, (cM f.data).head.mth, (cM f.data).head.late, (cM f.data).head.metas, [], []⟩] }
def ll (k : KR) : FrV := ⟨5, k.st.id, 11, emptyB⟩
def dX (c : NL) (i : Nat) (f : FrV) : NL :=
  if (bp (mK c i).st f).err ≠ 0 then { eZ c i (fun k => eV (if (bh k.st (ll k)).err = 0 then { k with st := (bh k.st (ll k)).st } else k)) with ou := c.ou ++ [ll (mK c i)] }
  else eZ c i (fun k => eV { k with st := (bp k.st f).st })
def si (c : NL) (i : Nat) (f : FrV) : Bool := decide ((bp (mK c i).st f).err = 0) && !(mK c i).st.done
def dk (c : NL) (f : FrV) : NL := if (bo c.rw (au f.data)).err = 0 then { c with rw := (bo c.rw (au f.data)).win } else c
def lv (c : NL) (f : FrV) : NL := gbC (match dj f.strm c.ks 0 with
  | none => dk c f
  | some i => if si (dk c f) i f = true then eZ (dX (dk c f) i f) i (fun k => { k with ib := k.ib ++ [f.data] }) else dX (dk c f) i f)
def kx (c : NL) : Nat → Nat → NL
  | 0, _ => c
  | n + 1, i => kx (gu c i) n (i + 1)
def gY (c : NL) (f : FrV) : NL :=
  if f.strm = 0 then kx (if (cC c.sw f.num).err = 0 then { c with sw := (cC c.sw f.num).win } else c) c.ks.length 0
  else match dj f.strm c.ks 0 with
    | none => c
    | some i => gu (dX c i f) i
def sj (c : NL) (f : FrV) : NL :=
  if f.kind = 1 then jd c f else if f.kind = 2 then lv c f
  else if f.kind = 7 then { c with ou := c.ou ++ [⟨8, 0, f.num, emptyB⟩] }
  else if f.kind = 8 then { c with pg := (c.pg ++ [f.num]).drop (c.pg.length + 1 - 16) }
  else if f.kind = 9 then ur { c with aw := if c.aw = 0 ∨ f.num + 1 < c.aw then f.num + 1 else c.aw } f.num
  else gY c f
def dg (c : NL) (f : FrV) : NL × Int := if c.cl = true then (c, 20) else if lj c f ≠ 0 then (lu c, lj c f) else (sj c f, 0)
def lI (c : NL) : List FrV → Bool → StV → Bool
  | [], _, _ => true
  | f :: r, fst, s => (f.kind == 2 || f.kind == 3 || f.kind == 4) && !(fst && (f.kind != 2 || (decide (au f.data ≤ s.snd.left) && decide (au f.data ≤ c.sw.left)))) && lI c r false s
def callOk (c : NL) (k : KR) : Bool :=
  df k.st && decide (k.st.side = c.sd) && decide (k.st.snd.size = c.sz) && decide (k.st.rcv.size = c.sz) && decide (k.st.snd.held = 0) && decide (bQ k.hd = 0) && k.ib.all (fun m => decide (m.size ≤ 16384)) &&
    (if k.st.done = true then decide (k.ob.length = 0) else decide (aN k.ib ≤ k.st.rcv.held) && decide ((dF k.ob k.st).err = 0) && lI c k.ob true k.st)
def ascB : Option Int → List KR → Bool
  | _, [] => true
  | p, k :: r => (match p with | none => true | some x => decide (x < k.st.id)) && ascB (some k.st.id) r
end Go.Proofs.YtklcfjlmlbnkaaaGreatDoor.Y
namespace Go.Proofs.YtklcfjlmlbnkaaaGreatDoor.Y
open Go.RowKit
def fC (f : FrV) : List Value := [.int .i64 f.kind, .int .i64 f.strm, .int .i64 f.num, .string f.data]
def tC (s : StV) : List Value := [.int .i64 s.id, .int .i64 s.side, .int .i64 s.shape, .int .i64 s.sent, .int .i64 s.got, .bool s.se, .bool s.ge, .bool s.done, .int .i64 s.code, .string s.text, .int .i64 s.snd.size, .int .i64 s.snd.left, .int .i64 s.snd.held, .int .i64 s.rcv.size, .int .i64 s.rcv.left, .int .i64 s.rcv.held]
structure KV where
  k : KR
  m : Option Addr
  mc : Nat
  i : Option Addr
  ic : Nat
  o : Option Addr
  oc : Nat
def KC (v : KV) : List Value := [.int .i64 v.k.st.id, .int .i64 v.k.st.side, .int .i64 v.k.st.shape, .int .i64 v.k.st.sent, .int .i64 v.k.st.got, .bool v.k.st.se, .bool v.k.st.ge, .bool v.k.st.done, .int .i64 v.k.st.code, .string v.k.st.text, .int .i64 v.k.st.snd.size, .int .i64 v.k.st.snd.left, .int .i64 v.k.st.snd.held, .int .i64 v.k.st.rcv.size, .int .i64 v.k.st.rcv.left, .int .i64 v.k.st.rcv.held, .string v.k.sv, .string v.k.mt, .int .i64 v.k.lt, .slice v.m v.k.ms.length v.mc, .slice v.i v.k.ib.length v.ic, .slice v.o v.k.ob.length v.oc]
theorem ej (a : FrV) : (fC a).length = 4 := rfl
theorem aK (a : KV) : (KC a).length = 22 := rfl
def KOk (A : Nat → Prop) (w : World) (v : KV) : Prop := Rws A w 2 mC v.m v.k.ms ∧ Rws A w 1 sC v.i v.k.ib ∧ Rws A w 4 fC v.o v.k.ob
def I7 (k : KR) : Prop := k.ms.length ≤ 4398046511104 ∧ k.ib.length ≤ 8796093022208 ∧ k.ob.length ≤ 3518437208883
structure NV where
  c : NL
  x : Option Addr
  xc : Nat
  kv : List KV
  o : Option Addr
  oc : Nat
  p : Option Addr
  pc : Nat
def NC (v : NV) : List Value := [.int .i64 v.c.sd, .int .i64 v.c.nx, .int .i64 v.c.la, .int .i64 v.c.aw, .int .i64 v.c.sz, .int .i64 v.c.sw.size, .int .i64 v.c.sw.left, .int .i64 v.c.sw.held, .int .i64 v.c.rw.size, .int .i64 v.c.rw.left, .int .i64 v.c.rw.held, .slice v.x v.kv.length v.xc, .slice v.o v.c.ou.length v.oc, .slice v.p v.c.pg.length v.pc, .bool v.c.cl]
structure NOk (A : Nat → Prop) (w : World) (v : NV) : Prop where
  ks : Rws A w 22 KC v.x v.kv
  ou : Rws A w 4 fC v.o v.c.ou
  pg : Rws A w 1 iC v.p v.c.pg
  eq : v.c.ks = v.kv.map (·.k)
  ok : ∀ u ∈ v.kv, KOk A w u
structure DP (v : NV) : Prop where
  ks : v.kv.length ≤ 606626243774
  ou : v.c.ou.length ≤ 3518437208882
  pg : v.c.pg.length ≤ 17592186044415
  ok : ∀ u ∈ v.kv, I7 u.k
section
variable {A : Nat → Prop} {w w' : World}
theorem KOk.below {v : KV} (h : KOk A w v) (hb : Below w.heap.size w w') : KOk A w' v := ⟨h.1.below hb, h.2.1.below hb, h.2.2.below hb⟩
theorem KOk.mono {A' : Nat → Prop} {v : KV} (h : KOk A w v) (hA : ∀ b, A b → A' b) : KOk A' w v := ⟨h.1.mono hA, h.2.1.mono hA, h.2.2.mono hA⟩
theorem KOk.agree {v : KV} (h : KOk A w v) (hk : ∀ b, A b → w'.heap[b]? = w.heap[b]?) : KOk A w' v := ⟨h.1.agree hk, h.2.1.agree hk, h.2.2.agree hk⟩
theorem KOk.lt {v : KV} (h : KOk A w v) : KOk (fun b => A b ∧ b < w.heap.size) w v := ⟨h.1.lt, h.2.1.lt, h.2.2.lt⟩
theorem NOk.below {v : NV} (h : NOk A w v) (hb : Below w.heap.size w w') : NOk A w' v := ⟨h.ks.below hb, h.ou.below hb, h.pg.below hb, h.eq, fun q hq => (h.ok q hq).below hb⟩
theorem NOk.mono {A' : Nat → Prop} {v : NV} (h : NOk A w v) (hA : ∀ b, A b → A' b) : NOk A' w v := ⟨h.ks.mono hA, h.ou.mono hA, h.pg.mono hA, h.eq, fun q hq => (h.ok q hq).mono hA⟩
theorem NOk.agree {v : NV} (h : NOk A w v) (hk : ∀ b, A b → w'.heap[b]? = w.heap[b]?) : NOk A w' v := ⟨h.ks.agree hk, h.ou.agree hk, h.pg.agree hk, h.eq, fun q hq => (h.ok q hq).agree hk⟩
theorem NOk.lt {v : NV} (h : NOk A w v) : NOk (fun b => A b ∧ b < w.heap.size) w v := ⟨h.ks.lt, h.ou.lt, h.pg.lt, h.eq, fun q hq => (h.ok q hq).lt⟩
theorem NOk.lenk {v : NV} (h : NOk A w v) : v.c.ks.length = v.kv.length := by rw [h.eq, List.length_map]
end
theorem wt : cX Tryz.prog 87 232 := by unfold cX; kernel_rfl
set_option maxRecDepth 100000 in
set_option maxHeartbeats 4000000 in
theorem ql (x : Option Addr) (n c : Nat) (cs : List Value) (w : World) (hx : x = none → n = 0) (hin : ∀ ad, x = some ad → ∀ j u, cs[j]? = some u → w.cell? (ad.add j) = some u) (hlen : cs.length = n * 22) (hone : ∀ u ∈ cs, u.oneCell' = true) (hb : n * 232 ≤ 140737488355328) : Calls Tryz.prog 48 #[.slice x n c] w fun e w' => ∃ p : Option Addr × Nat, e = .returned (.slice p.1 n p.2) ∧ w'.ownsRow w.heap.size 87 22 (.slice p.1 n p.2) n cs ∧ Below w.heap.size w w' := by
  refine aA Tryz.func48 rfl Tryz.ntmps48 J J ?_
  cases x with
  | none =>
    obtain rfl := hx rfl
    obtain rfl : cs = [] := List.eq_nil_of_length_eq_zero (by omega)
    repeat' refine nx ?_
    refine aq J J ?_
    repeat' refine nx ?_
    (refine rt ?_; refine fun w1 hm => ⟨(none, 0), rfl, World.ownsRow_nil _ _ _ _, hm.below⟩)
  | some ad =>
    repeat' refine nx ?_
    refine ai J J ?_
    repeat' (first | (refine cE af J J J trivial J J J J J J J J ?_; intro g) | refine nx ?_)
    refine iX 0 22 rfl (Nat.zero_le _) ?_
    repeat' (first | refine vx rfl (aj af J J ⟨J, J, J, J, J, J, J, J, trivial⟩ J J J) ?_ | refine aL am rfl (by kernel_rfl) ?_ | refine bW ?_ | (refine bC ?_; intro g) | ((refine' di rfl ?_ J J J ?_); rotate_left; first | exact aI af J J J J | exact bw af J J J J J J | exact ew J J J J J | exact eF J J J J J | exact ab af 0 J J J J J | exact ab af 1 J J J J J | exact ab af 2 J J J J J | exact gQ af iI J J J J J J (by kernel_rfl) | exact iG af iI J J J J J J (by kernel_rfl) | exact fi af J J J J J J J | exact fO J J J J J | exact iF J J J J J | exact lp J J J J J J J | exact aj af J J trivial J J J | exact aj af J J ⟨J, trivial⟩ J J J | exact aj af J J ⟨J, J, trivial⟩ J J J | exact aj af J J ⟨J, J, J, trivial⟩ J J J | exact aj af J J ⟨J, J, J, J, trivial⟩ J J J | exact aj af J J ⟨J, J, J, J, J, trivial⟩ J J J | exact aj af J J ⟨J, J, J, J, J, J, trivial⟩ J J J | exact aj af J J ⟨J, J, J, J, J, J, J, trivial⟩ J J J | exact aj af J J ⟨J, J, J, J, J, J, J, J, trivial⟩ J J J) | (refine bx ?_; intro g) | (refine al ?_; intro g) | refine bY af J J J J J J ?_ | refine iH J J J J J J ?_ | refine nx ?_)
    refine jZ af 0 J J J J J J J J (fun _ _ => rfl) wt (fun w1 hm j u hu => ?_) (.inr hone) hlen (by unfold maxLen; omega) (by omega) J J ?_
    · have h1 := hin ad rfl j u hu
      exact (hm.below.cell (block_lt_of_cell h1)).trans h1
    intro sa sc
    repeat' refine cV ?_
    (refine rt ?_; refine fun w1 hm => ⟨(sa, sc), by rw [Nat.zero_add], ?_, hm.below⟩)
    have h1 := hm.2.get (i := 0) rfl
    rw [Nat.zero_add, List.nil_append] at h1
    exact h1
theorem lw : cX Tryz.prog 74 40 := by unfold cX; kernel_rfl
set_option maxRecDepth 100000 in
set_option maxHeartbeats 4000000 in
theorem sk (x : Option Addr) (n c : Nat) (cs : List Value) (w : World) (hx : x = none → n = 0) (hin : ∀ ad, x = some ad → ∀ j u, cs[j]? = some u → w.cell? (ad.add j) = some u) (hlen : cs.length = n * 4) (hone : ∀ u ∈ cs, u.oneCell' = true) (hb : n * 40 ≤ 140737488355328) : Calls Tryz.prog 50 #[.slice x n c] w fun e w' => ∃ p : Option Addr × Nat, e = .returned (.slice p.1 n p.2) ∧ w'.ownsRow w.heap.size 74 4 (.slice p.1 n p.2) n cs ∧ Below w.heap.size w w' := by
  refine aA Tryz.func50 rfl Tryz.ntmps50 J J ?_
  cases x with
  | none =>
    obtain rfl := hx rfl
    obtain rfl : cs = [] := List.eq_nil_of_length_eq_zero (by omega)
    repeat' refine nx ?_
    refine aq J J ?_
    repeat' refine nx ?_
    (refine rt ?_; refine fun w1 hm => ⟨(none, 0), rfl, World.ownsRow_nil _ _ _ _, hm.below⟩)
  | some ad =>
    repeat' refine nx ?_
    refine ai J J ?_
    repeat' (first | (refine cE af J J J trivial J J J J J J J J ?_; intro g) | refine nx ?_)
    refine iX 0 4 rfl (Nat.zero_le _) ?_
    repeat' (first | refine vx rfl (aj af J J ⟨J, J, J, J, J, J, J, J, trivial⟩ J J J) ?_ | refine aL am rfl (by kernel_rfl) ?_ | refine bW ?_ | (refine bC ?_; intro g) | ((refine' di rfl ?_ J J J ?_); rotate_left; first | exact aI af J J J J | exact bw af J J J J J J | exact ew J J J J J | exact eF J J J J J | exact ab af 0 J J J J J | exact ab af 1 J J J J J | exact ab af 2 J J J J J | exact gQ af iI J J J J J J (by kernel_rfl) | exact iG af iI J J J J J J (by kernel_rfl) | exact fi af J J J J J J J | exact fO J J J J J | exact iF J J J J J | exact lp J J J J J J J | exact aj af J J trivial J J J | exact aj af J J ⟨J, trivial⟩ J J J | exact aj af J J ⟨J, J, trivial⟩ J J J | exact aj af J J ⟨J, J, J, trivial⟩ J J J | exact aj af J J ⟨J, J, J, J, trivial⟩ J J J | exact aj af J J ⟨J, J, J, J, J, trivial⟩ J J J | exact aj af J J ⟨J, J, J, J, J, J, trivial⟩ J J J | exact aj af J J ⟨J, J, J, J, J, J, J, trivial⟩ J J J | exact aj af J J ⟨J, J, J, J, J, J, J, J, trivial⟩ J J J) | (refine bx ?_; intro g) | (refine al ?_; intro g) | refine bY af J J J J J J ?_ | refine iH J J J J J J ?_ | refine nx ?_)
    refine jZ af 0 J J J J J J J J (fun _ _ => rfl) lw (fun w1 hm j u hu => ?_) (.inr hone) hlen (by unfold maxLen; omega) (by omega) J J ?_
    · have h1 := hin ad rfl j u hu
      exact (hm.below.cell (block_lt_of_cell h1)).trans h1
    intro sa sc
    repeat' refine cV ?_
    (refine rt ?_; refine fun w1 hm => ⟨(sa, sc), by rw [Nat.zero_add], ?_, hm.below⟩)
    have h1 := hm.2.get (i := 0) rfl
    rw [Nat.zero_add, List.nil_append] at h1
    exact h1
set_option maxRecDepth 100000 in
set_option maxHeartbeats 4000000 in
theorem sm (x : Option Addr) (n c : Nat) (cs : List Value) (w : World) (hx : x = none → n = 0) (hin : ∀ ad, x = some ad → ∀ j u, cs[j]? = some u → w.cell? (ad.add j) = some u) (hlen : cs.length = n * 1) (hone : ∀ u ∈ cs, u.oneCell' = true) (hb : n * 8 ≤ 140737488355328) : Calls Tryz.prog 51 #[.slice x n c] w fun e w' => ∃ p : Option Addr × Nat, e = .returned (.slice p.1 n p.2) ∧ w'.ownsRow w.heap.size 3 1 (.slice p.1 n p.2) n cs ∧ Below w.heap.size w w' := by
  refine aA Tryz.func51 rfl Tryz.ntmps51 J J ?_
  cases x with
  | none =>
    obtain rfl := hx rfl
    obtain rfl : cs = [] := List.eq_nil_of_length_eq_zero (by omega)
    repeat' refine nx ?_
    refine aq J J ?_
    repeat' refine nx ?_
    (refine rt ?_; refine fun w1 hm => ⟨(none, 0), rfl, World.ownsRow_nil _ _ _ _, hm.below⟩)
  | some ad =>
    repeat' refine nx ?_
    refine ai J J ?_
    repeat' (first | (refine cE af J J J trivial J J J J J J J J ?_; intro g) | refine nx ?_)
    refine iX 0 1 rfl (Nat.zero_le _) ?_
    repeat' (first | refine vx rfl (aj af J J ⟨J, J, J, J, J, J, J, J, trivial⟩ J J J) ?_ | refine aL am rfl (by kernel_rfl) ?_ | refine bW ?_ | (refine bC ?_; intro g) | ((refine' di rfl ?_ J J J ?_); rotate_left; first | exact aI af J J J J | exact bw af J J J J J J | exact ew J J J J J | exact eF J J J J J | exact ab af 0 J J J J J | exact ab af 1 J J J J J | exact ab af 2 J J J J J | exact gQ af iI J J J J J J (by kernel_rfl) | exact iG af iI J J J J J J (by kernel_rfl) | exact fi af J J J J J J J | exact fO J J J J J | exact iF J J J J J | exact lp J J J J J J J | exact aj af J J trivial J J J | exact aj af J J ⟨J, trivial⟩ J J J | exact aj af J J ⟨J, J, trivial⟩ J J J | exact aj af J J ⟨J, J, J, trivial⟩ J J J | exact aj af J J ⟨J, J, J, J, trivial⟩ J J J | exact aj af J J ⟨J, J, J, J, J, trivial⟩ J J J | exact aj af J J ⟨J, J, J, J, J, J, trivial⟩ J J J | exact aj af J J ⟨J, J, J, J, J, J, J, trivial⟩ J J J | exact aj af J J ⟨J, J, J, J, J, J, J, J, trivial⟩ J J J) | (refine bx ?_; intro g) | (refine al ?_; intro g) | refine bY af J J J J J J ?_ | refine iH J J J J J J ?_ | refine nx ?_)
    refine jZ af 0 J J J J J J J J (fun _ _ => rfl) EM (fun w1 hm j u hu => ?_) (.inr hone) hlen (by unfold maxLen; omega) (by omega) J J ?_
    · have h1 := hin ad rfl j u hu
      exact (hm.below.cell (block_lt_of_cell h1)).trans h1
    intro sa sc
    repeat' refine cV ?_
    (refine rt ?_; refine fun w1 hm => ⟨(sa, sc), by rw [Nat.zero_add], ?_, hm.below⟩)
    have h1 := hm.2.get (i := 0) rfl
    rw [Nat.zero_add, List.nil_append] at h1
    exact h1
theorem Fw (l : List (ByteArray)) : ∀ u ∈ l.flatMap sC, u.oneCell' = true := by
  intro u hu
  obtain ⟨a, _, hu⟩ := List.mem_flatMap.1 hu
  simp only [sC, List.mem_cons, List.not_mem_nil, or_false] at hu
  (repeat' (rcases hu with hu | hu)) <;> rfl
theorem zg {A : Nat → Prop} (x : Option Addr) (l : List (ByteArray)) (c : Nat) (w : World) (h : Rws A w 1 sC x l) (hb : l.length * 16 ≤ 140737488355328) : Calls Tryz.prog 49 #[.slice x l.length c] w fun e w' => ∃ p : Option Addr × Nat, True ∧ e = .returned (.slice p.1 l.length p.2) ∧ Made w w' [.own p.1 p.2 9 1 l.length (l.flatMap sC)] := by
  refine (rU x l.length c (l.flatMap sC) w (fun hx => ?_) (fun ad hx j u hu => ?_) (bZ eb l) (Fw l) hb).mono fun e w' ⟨p, h1, h2, h3⟩ => ⟨p, trivial, h1, Made.one h2 h3⟩
  · by_cases h0 : 0 < l.length
    · obtain ⟨b, off, h1, _⟩ := h h0
      rw [hx] at h1; cases h1
    · omega
  · have hj := (List.getElem?_eq_some_iff.1 hu).1
    rw [bZ eb l] at hj
    have h0 : 0 < l.length := by omega
    obtain ⟨b, off, h1, _, _, h4⟩ := h h0
    rw [hx] at h1
    obtain rfl := (by simpa using h1 : ad = _)
    have hjl : j / 1 < l.length := by omega
    have hk := h4 (j / 1) _ (List.getElem?_eq_getElem hjl)
    have hmod : j % 1 < (sC l[j / 1]).length := by rw [eb]; omega
    have h5 := hk (j % 1) _ (List.getElem?_eq_getElem hmod)
    have h6 := aJ eb (List.getElem?_eq_getElem hjl) (List.getElem?_eq_getElem hmod)
    have e1 : j / 1 * 1 + j % 1 = j := by omega
    rw [e1, hu] at h6
    rw [Option.some.inj h6, Addr.add_mid, show off + j = off + j / 1 * 1 + j % 1 by omega]
    exact h5
theorem DQ (l : List (ByteArray × ByteArray)) : ∀ u ∈ l.flatMap mC, u.oneCell' = true := by
  intro u hu
  obtain ⟨a, _, hu⟩ := List.mem_flatMap.1 hu
  simp only [mC, List.mem_cons, List.not_mem_nil, or_false] at hu
  (repeat' (rcases hu with hu | hu)) <;> rfl
theorem pe {A : Nat → Prop} (x : Option Addr) (l : List (ByteArray × ByteArray)) (c : Nat) (w : World) (h : Rws A w 2 mC x l) (hb : l.length * 32 ≤ 140737488355328) : Calls Tryz.prog 24 #[.slice x l.length c] w fun e w' => ∃ p : Option Addr × Nat, True ∧ e = .returned (.slice p.1 l.length p.2) ∧ Made w w' [.own p.1 p.2 85 2 l.length (l.flatMap mC)] := by
  refine (qk x l.length c (l.flatMap mC) w (fun hx => ?_) (fun ad hx j u hu => ?_) (bZ iK l) (DQ l) hb).mono fun e w' ⟨p, h1, h2, h3⟩ => ⟨p, trivial, h1, Made.one h2 h3⟩
  · by_cases h0 : 0 < l.length
    · obtain ⟨b, off, h1, _⟩ := h h0
      rw [hx] at h1; cases h1
    · omega
  · have hj := (List.getElem?_eq_some_iff.1 hu).1
    rw [bZ iK l] at hj
    have h0 : 0 < l.length := by omega
    obtain ⟨b, off, h1, _, _, h4⟩ := h h0
    rw [hx] at h1
    obtain rfl := (by simpa using h1 : ad = _)
    have hjl : j / 2 < l.length := by omega
    have hk := h4 (j / 2) _ (List.getElem?_eq_getElem hjl)
    have hmod : j % 2 < (mC l[j / 2]).length := by rw [iK]; omega
    have h5 := hk (j % 2) _ (List.getElem?_eq_getElem hmod)
    have h6 := aJ iK (List.getElem?_eq_getElem hjl) (List.getElem?_eq_getElem hmod)
    have e1 : j / 2 * 2 + j % 2 = j := by omega
    rw [e1, hu] at h6
    rw [Option.some.inj h6, Addr.add_mid, show off + j = off + j / 2 * 2 + j % 2 by omega]
    exact h5
theorem DR (l : List (KV)) : ∀ u ∈ l.flatMap KC, u.oneCell' = true := by
  intro u hu
  obtain ⟨a, _, hu⟩ := List.mem_flatMap.1 hu
  simp only [KC, List.mem_cons, List.not_mem_nil, or_false] at hu
  (repeat' (rcases hu with hu | hu)) <;> rfl
theorem wu {A : Nat → Prop} (x : Option Addr) (l : List (KV)) (c : Nat) (w : World) (h : Rws A w 22 KC x l) (hb : l.length * 232 ≤ 140737488355328) : Calls Tryz.prog 48 #[.slice x l.length c] w fun e w' => ∃ p : Option Addr × Nat, True ∧ e = .returned (.slice p.1 l.length p.2) ∧ Made w w' [.own p.1 p.2 87 22 l.length (l.flatMap KC)] := by
  refine (ql x l.length c (l.flatMap KC) w (fun hx => ?_) (fun ad hx j u hu => ?_) (bZ aK l) (DR l) hb).mono fun e w' ⟨p, h1, h2, h3⟩ => ⟨p, trivial, h1, Made.one h2 h3⟩
  · by_cases h0 : 0 < l.length
    · obtain ⟨b, off, h1, _⟩ := h h0
      rw [hx] at h1; cases h1
    · omega
  · have hj := (List.getElem?_eq_some_iff.1 hu).1
    rw [bZ aK l] at hj
    have h0 : 0 < l.length := by omega
    obtain ⟨b, off, h1, _, _, h4⟩ := h h0
    rw [hx] at h1
    obtain rfl := (by simpa using h1 : ad = _)
    have hjl : j / 22 < l.length := by omega
    have hk := h4 (j / 22) _ (List.getElem?_eq_getElem hjl)
    have hmod : j % 22 < (KC l[j / 22]).length := by rw [aK]; omega
    have h5 := hk (j % 22) _ (List.getElem?_eq_getElem hmod)
    have h6 := aJ aK (List.getElem?_eq_getElem hjl) (List.getElem?_eq_getElem hmod)
    have e1 : j / 22 * 22 + j % 22 = j := by omega
    rw [e1, hu] at h6
    rw [Option.some.inj h6, Addr.add_mid, show off + j = off + j / 22 * 22 + j % 22 by omega]
    exact h5
theorem Fx (l : List (FrV)) : ∀ u ∈ l.flatMap fC, u.oneCell' = true := by
  intro u hu
  obtain ⟨a, _, hu⟩ := List.mem_flatMap.1 hu
  simp only [fC, List.mem_cons, List.not_mem_nil, or_false] at hu
  (repeat' (rcases hu with hu | hu)) <;> rfl
theorem qT {A : Nat → Prop} (x : Option Addr) (l : List (FrV)) (c : Nat) (w : World) (h : Rws A w 4 fC x l) (hb : l.length * 40 ≤ 140737488355328) : Calls Tryz.prog 50 #[.slice x l.length c] w fun e w' => ∃ p : Option Addr × Nat, True ∧ e = .returned (.slice p.1 l.length p.2) ∧ Made w w' [.own p.1 p.2 74 4 l.length (l.flatMap fC)] := by
  refine (sk x l.length c (l.flatMap fC) w (fun hx => ?_) (fun ad hx j u hu => ?_) (bZ ej l) (Fx l) hb).mono fun e w' ⟨p, h1, h2, h3⟩ => ⟨p, trivial, h1, Made.one h2 h3⟩
  · by_cases h0 : 0 < l.length
    · obtain ⟨b, off, h1, _⟩ := h h0
      rw [hx] at h1; cases h1
    · omega
  · have hj := (List.getElem?_eq_some_iff.1 hu).1
    rw [bZ ej l] at hj
    have h0 : 0 < l.length := by omega
    obtain ⟨b, off, h1, _, _, h4⟩ := h h0
    rw [hx] at h1
    obtain rfl := (by simpa using h1 : ad = _)
    have hjl : j / 4 < l.length := by omega
    have hk := h4 (j / 4) _ (List.getElem?_eq_getElem hjl)
    have hmod : j % 4 < (fC l[j / 4]).length := by rw [ej]; omega
    have h5 := hk (j % 4) _ (List.getElem?_eq_getElem hmod)
    have h6 := aJ ej (List.getElem?_eq_getElem hjl) (List.getElem?_eq_getElem hmod)
    have e1 : j / 4 * 4 + j % 4 = j := by omega
    rw [e1, hu] at h6
    rw [Option.some.inj h6, Addr.add_mid, show off + j = off + j / 4 * 4 + j % 4 by omega]
    exact h5
theorem Fy (l : List (Int)) : ∀ u ∈ l.flatMap iC, u.oneCell' = true := by
  intro u hu
  obtain ⟨a, _, hu⟩ := List.mem_flatMap.1 hu
  simp only [iC, List.mem_cons, List.not_mem_nil, or_false] at hu
  (repeat' (rcases hu with hu | hu)) <;> rfl
theorem zh {A : Nat → Prop} (x : Option Addr) (l : List (Int)) (c : Nat) (w : World) (h : Rws A w 1 iC x l) (hb : l.length * 8 ≤ 140737488355328) : Calls Tryz.prog 51 #[.slice x l.length c] w fun e w' => ∃ p : Option Addr × Nat, True ∧ e = .returned (.slice p.1 l.length p.2) ∧ Made w w' [.own p.1 p.2 3 1 l.length (l.flatMap iC)] := by
  refine (sm x l.length c (l.flatMap iC) w (fun hx => ?_) (fun ad hx j u hu => ?_) (bZ fR l) (Fy l) hb).mono fun e w' ⟨p, h1, h2, h3⟩ => ⟨p, trivial, h1, Made.one h2 h3⟩
  · by_cases h0 : 0 < l.length
    · obtain ⟨b, off, h1, _⟩ := h h0
      rw [hx] at h1; cases h1
    · omega
  · have hj := (List.getElem?_eq_some_iff.1 hu).1
    rw [bZ fR l] at hj
    have h0 : 0 < l.length := by omega
    obtain ⟨b, off, h1, _, _, h4⟩ := h h0
    rw [hx] at h1
    obtain rfl := (by simpa using h1 : ad = _)
    have hjl : j / 1 < l.length := by omega
    have hk := h4 (j / 1) _ (List.getElem?_eq_getElem hjl)
    have hmod : j % 1 < (iC l[j / 1]).length := by rw [fR]; omega
    have h5 := hk (j % 1) _ (List.getElem?_eq_getElem hmod)
    have h6 := aJ fR (List.getElem?_eq_getElem hjl) (List.getElem?_eq_getElem hmod)
    have e1 : j / 1 * 1 + j % 1 = j := by omega
    rw [e1, hu] at h6
    rw [Option.some.inj h6, Addr.add_mid, show off + j = off + j / 1 * 1 + j % 1 by omega]
    exact h5
end Go.Proofs.YtklcfjlmlbnkaaaGreatDoor.Y
