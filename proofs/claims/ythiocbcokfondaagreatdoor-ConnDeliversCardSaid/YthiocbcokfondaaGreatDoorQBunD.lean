/- Texts of this claim merged into one: QWin, QShapes, QStrLaw, QConD. -/
import Derived.Test.YthiocbcokfondaaGreatDoorChecked
import Derived.WalkKit
import Derived.WalkSpells
import Derived.WalkLawsBesides
import Derived.Test.YthiocbcokfondaaGreatDoorQBunS
namespace Go.Proofs.YthiocbcokfondaaGreatDoor
open Go
structure bj where
  size : Int
  left : Int
  held : Int
def bl (w : bj) : Bool := decide (1 ≤ w.size ∧ w.size ≤ 1048576 ∧ 0 ≤ w.left ∧ 0 ≤ w.held ∧ w.left ≤ 1048576 ∧ w.left + w.held ≤ 1048576)
structure th where
  win : bj
  err : Int
def dG (w : bj) (n : Int) : th := if bl w = false ∨ n < 0 then ⟨w, 1⟩ else if w.left < n then ⟨w, 22⟩ else ⟨⟨w.size, w.left - n, w.held⟩, 0⟩
def bV (w : bj) (n : Int) : th := if bl w = false ∨ n < 0 then ⟨w, 1⟩ else if w.left < n then ⟨w, 22⟩ else ⟨⟨w.size, w.left - n, w.held + n⟩, 0⟩
def cS (w : bj) (n : Int) : th := if bl w = false ∨ n < 1 then ⟨w, 1⟩ else if 1048576 - w.left - w.held < n then ⟨w, 6⟩ else ⟨⟨w.size, w.left + n, w.held⟩, 0⟩
def ig (n : Int) : th := if n < 1 ∨ 1048576 < n then ⟨⟨0, 0, 0⟩, 1⟩ else ⟨⟨n, n, 0⟩, 0⟩
end Go.Proofs.YthiocbcokfondaaGreatDoor
namespace Go.Proofs.YthiocbcokfondaaGreatDoor
open Go.RowKit
def Eo (s : Int) : Bool := s == 3 || s == 4
def CB (s : Int) : Bool := s == 2 || s == 4
def rA (s : Int) : Bool := decide (1 ≤ s) && decide (s ≤ 4)
def c1 (s : Int) : Int := if rA s then (if Eo s then 0 else 1) else 0
def c2 (s : Int) : Int := if rA s then (if Eo s then -1 else 1) else 0
def c3 (s : Int) : Int := if rA s then (if CB s then 0 else 1) else 0
def c4 (s : Int) : Int := if rA s then (if CB s then -1 else 1) else 0
theorem lP {fn : Func} {a b c d : Tmp} (h : fn.results = #[.tmp a, .tmp b, .tmp c, .tmp d]) (tmps : Array Value) (P : Program) (w : World) :
    (results fn tmps).run P w = .ok (.tuple #[tmps.getD a undef, tmps.getD b undef, tmps.getD c undef, tmps.getD d undef]) w := by
  simp [results, h]
theorem wY {s : Int} (h : rA s = true) : s = 1 ∨ s = 2 ∨ s = 3 ∨ s = 4 := by simp [rA] at h; omega
theorem Be (s : Int) (w : World) : Calls Tryz.prog 205 #[.int .i64 s] w fun e w' => e = .returned (.bool (rA s)) ∧ w = w' := by
  go_enter Tryz.func205, Tryz.ntmps205
  go_wp2
  all_goals (go_ret; exact ⟨by simp [rA] <;> omega, rfl⟩)
theorem counts (s : Int) (w : World) : Calls Tryz.prog 184 #[.int .i64 s] w fun e w' => e = .returned (.tuple #[.int .i64 (c1 s), .int .i64 (c2 s), .int .i64 (c3 s), .int .i64 (c4 s)]) ∧ w = w' := by
  by_cases hs : rA s = true
  · rcases wY hs with rfl | rfl | rfl | rfl
    all_goals
      clear hs
      go_enter Tryz.func184, Tryz.ntmps184
      go_wp2
      refine bodyPost_ret (lP rfl _ _ _) rfl ⟨?_, rfl⟩
      simp [c1, c2, c3, c4, rA, Eo, CB]
  · have hn : rA s = false := by simpa using hs
    clear hs
    go_enter Tryz.func184, Tryz.ntmps184
    go_wp2_with (go_at_call 205; refine (Be _ _).mono ?_; rintro e w' ⟨rfl, rfl⟩)
    refine bodyPost_ret (lP rfl _ _ _) rfl ⟨?_, rfl⟩
    simp [c1, c2, c3, c4, hn]
end Go.Proofs.YthiocbcokfondaaGreatDoor
namespace Go.Proofs.YthiocbcokfondaaGreatDoor
open Go
structure cx where
  id : Int
  side : Int
  shape : Int
  sent : Int
  got : Int
  se : Bool
  ge : Bool
  done : Bool
  code : Int
  text : ByteArray
  snd : bj
  rcv : bj
def jK (n : Int) : Int := if n < 0 then 4611686018427387904 else n
def ju (s : cx) : Int := if s.side = 1 then s.sent else s.got
def mF (s : cx) : Int := if s.side = 1 then s.got else s.sent
def rB (s : cx) : Bool := if s.side = 1 then s.se else s.ge
def uK (s : cx) : Bool := if s.side = 1 then s.ge else s.se
def uL (s : cx) : Bool := decide (1 ≤ s.id ∧ s.id ≤ 2147483647 ∧ (s.side = 1 ∨ s.side = 2)) && rA s.shape
def rC (s : cx) : Bool := bl s.snd && bl s.rcv && decide (0 ≤ ju s ∧ ju s ≤ jK (c2 s.shape) ∧ 0 ≤ mF s ∧ mF s ≤ jK (c4 s.shape))
def yM (s : cx) : Bool := if s.done = true then s.se && s.ge && decide (bU s.code s.text = 0) else !uK s && (!rB s || decide (c1 s.shape ≤ ju s)) && decide (s.code = 0) && decide (s.text.size = 0)
def ei (s : cx) : Bool := uL s && rC s && yM s
def yN : cx := ⟨0, 0, 0, 0, 0, false, false, false, 0, ⟨#[]⟩, ⟨0, 0, 0⟩, ⟨0, 0, 0⟩⟩
structure Bf where
  st : cx
  err : Int
def dH (id side shape size : Int) : Bf := if id < 1 ∨ 2147483647 < id ∨ (side ≠ 1 ∧ side ≠ 2) ∨ rA shape = false ∨ (ig size).err ≠ 0 then ⟨yN, 1⟩
  else ⟨⟨id, side, shape, 0, 0, false, false, false, 0, ⟨#[]⟩, (ig size).win, (ig size).win⟩, 0⟩
def aI (d : ByteArray) : Int := if d.size < 1 then 1 else d.size
def eA (s : cx) (c : Int) (t : ByteArray) : cx := { s with se := true, ge := true, done := true, code := c, text := t }
def eO (s : cx) (f : aY) : cx := if f.kind = 5 then eA s f.num ⟨#[]⟩ else eA s (bu f.data).code (bu f.data).text
def iH (s : cx) : Bool := decide (ju s < c1 s.shape) || decide (mF s < c3 s.shape) || ((s.shape == 1 || s.shape == 3) && !rB s)
def iV (s : cx) (client : Bool) : Int := jK (if client = true then c2 s.shape else c4 s.shape)
def bD (s : cx) (f : aY) : Bf :=
  if ei s = false ∨ aR f ≠ 0 ∨ f.strm ≠ s.id then ⟨s, 1⟩
  else if f.kind = 2 then
    if s.done = true ∨ s.se = true then ⟨s, 20⟩ else if iV s (s.side == 1) ≤ s.sent then ⟨s, 11⟩ else if s.snd.size < aI f.data then ⟨s, 3⟩
    else if (dG s.snd (aI f.data)).err ≠ 0 then ⟨s, (dG s.snd (aI f.data)).err⟩ else ⟨{ s with sent := s.sent + 1, snd := (dG s.snd (aI f.data)).win }, 0⟩
  else if f.kind = 3 then
    if s.done = true ∨ s.se = true ∨ s.side ≠ 1 then ⟨s, 20⟩ else if s.sent < c1 s.shape then ⟨s, 11⟩ else ⟨{ s with se := true }, 0⟩
  else if f.kind = 4 then
    if s.done = true ∨ s.side = 1 then ⟨s, 20⟩ else if (bu f.data).code = 0 ∧ iH s = true then ⟨s, 11⟩ else ⟨eO s f, 0⟩
  else if f.kind = 5 then (if s.done = true then ⟨s, 20⟩ else ⟨eO s f, 0⟩)
  else ⟨s, 1⟩
def bQ (s : cx) (f : aY) : Bf :=
  if ei s = false ∨ aR f ≠ 0 ∨ f.strm ≠ s.id ∨ (f.kind < 2 ∨ 6 < f.kind) then ⟨s, 1⟩
  else if s.done = true then ⟨s, 0⟩
  else if f.kind = 2 then
    if s.ge = true then ⟨s, 20⟩ else if iV s (s.side != 1) ≤ s.got then ⟨s, 11⟩ else if s.rcv.size < aI f.data then ⟨s, 3⟩
    else if (bV s.rcv (aI f.data)).err ≠ 0 then ⟨s, (bV s.rcv (aI f.data)).err⟩ else ⟨{ s with got := s.got + 1, rcv := (bV s.rcv (aI f.data)).win }, 0⟩
  else if f.kind = 3 then
    if s.ge = true ∨ s.side = 1 then ⟨s, 20⟩ else if s.got < c1 s.shape then ⟨s, 11⟩ else ⟨{ s with ge := true }, 0⟩
  else if f.kind = 4 then
    if s.side ≠ 1 then ⟨s, 20⟩ else if (bu f.data).code = 0 ∧ iH s = true then ⟨s, 11⟩ else ⟨eO s f, 0⟩
  else if f.kind = 5 then ⟨eO s f, 0⟩
  else if (cS s.snd f.num).err ≠ 0 then ⟨s, (cS s.snd f.num).err⟩ else ⟨{ s with snd := (cS s.snd f.num).win }, 0⟩
def ti (s : cx) (c : Int) (t : ByteArray) : cx := if s.done = true ∨ ei s = false ∨ bU c t ≠ 0 then s else eA s c t
end Go.Proofs.YthiocbcokfondaaGreatDoor
namespace Go.Proofs.YthiocbcokfondaaGreatDoor.Y
structure KR where
  st : cx
  sv : ByteArray
  mt : ByteArray
  lt : Int
  ms : List (ByteArray × ByteArray)
  ib : List ByteArray
  ob : List aY
def KR.hd (k : KR) : ir := ⟨k.sv, k.mt, k.lt, k.ms⟩
structure NL where
  sd : Int
  nx : Int
  la : Int
  aw : Int
  sz : Int
  sw : bj
  rw : bj
  ks : List KR
  ou : List aY
  pg : List Int
  cl : Bool
def DM : bj := ⟨0, 0, 0⟩
def E8 : NL := ⟨0, 0, 0, 0, 0, DM, DM, [], [], [], false⟩
def Ep : KR := ⟨yN, emptyB, emptyB, 0, [], [], []⟩
def dP (sd sz : Int) : NL × Int := if (sd ≠ 1 ∧ sd ≠ 2) ∨ (ig sz).err ≠ 0 then (E8, 1) else (⟨sd, 1, 0, 0, sz, (ig sz).win, (ig sz).win, [], [], [], false⟩, 0)
def dO (id : Int) : List KR → Nat → Option Nat
  | [], _ => none
  | k :: r, i => if k.st.id = id then some i else dO id r (i + 1)
def mG (c : NL) (i : Nat) : KR := (c.ks[i]?).getD Ep
def gb (c : NL) (i : Nat) (g : KR → KR) : NL := { c with ks := c.ks.set i (g (mG c i)) }
def aW : List ByteArray → Int
  | [] => 0
  | s :: r => aI s + aW r
def be : List KR → Int
  | [] => 0
  | k :: r => aW k.ib + be r
def eo (l : List KR) : Nat := l.countP fun k => !k.st.done
def Bg (w : bj) : Int := if bl w = false ∨ w.held = 0 ∨ 2 * w.held < w.size then 0 else w.held
def bI (w : bj) (u : Int) : Int := if u = 0 then w.held else Bg ⟨w.size, w.left, w.held - u⟩
def tl (w : bj) (n : Int) : bj := ⟨w.size, w.left + n, w.held - n⟩
def gbC (c : NL) : NL := if c.cl = true ∨ bI c.rw (be c.ks) ≤ 0 then c else { c with rw := tl c.rw (bI c.rw (be c.ks)), ou := c.ou ++ [⟨6, 0, bI c.rw (be c.ks), emptyB⟩] }
def rD (c : NL) (i : Nat) : Int := bI (mG c i).st.rcv (aW (mG c i).ib)
def gbK (c : NL) (i : Nat) (id : Int) : NL := if c.cl = true ∨ rD c i ≤ 0 then c else { gb c i (fun k => { k with st := { k.st with rcv := tl k.st.rcv (rD c i) } }) with ou := c.ou ++ [⟨6, id, rD c i, emptyB⟩] }
def eL (k : KR) : KR := if k.st.done = true then { k with ob := [] } else k
def bR (f : aY) : Int := if f.kind = 2 then aI f.data else 0
structure Eq where
  st : cx
  w : bj
  ob : List aY
  ou : List aY
def kL : List aY → cx → bj → List aY → Eq
  | [], s, w, o => ⟨s, w, [], o⟩
  | f :: r, s, w, o =>
    if s.snd.left < bR f ∨ w.left < bR f then ⟨s, w, f :: r, o⟩
    else if (bD s f).err ≠ 0 then ⟨s, w, f :: r, o⟩
    else if (dG w (bR f)).err ≠ 0 then ⟨s, w, f :: r, o⟩
    else if (bD s f).st.done = true then ⟨(bD s f).st, (dG w (bR f)).win, [], o ++ [f]⟩
    else kL r (bD s f).st (dG w (bR f)).win (o ++ [f])
def sonR (c : NL) (i : Nat) : Eq := kL (mG c i).ob (mG c i).st c.sw c.ou
def fw (c : NL) (i : Nat) : NL := { gb c i (fun k => { k with st := (sonR c i).st, ob := (sonR c i).ob }) with sw := (sonR c i).w, ou := (sonR c i).ou }
def gy (s : cx) : cx := { s with snd := ⟨s.snd.size, 1048576, s.snd.held⟩ }
def cy : List aY → cx → Bf
  | [], s => ⟨gy s, 0⟩
  | f :: r, s => if (bD (gy s) f).err ≠ 0 then ⟨gy s, (bD (gy s) f).err⟩ else cy r (bD (gy s) f).st
def oH (h : ir) : ByteArray := ⟨(lN h).bytes.toArray⟩
def iW (c : NL) (h : ir) (sh : Int) : aY := ⟨1, c.nx, sh, oH h⟩
def lj (c : NL) (h : ir) (sh : Int) : Int :=
  if c.sd ≠ 1 ∨ c.cl = true ∨ c.aw ≠ 0 then 20 else if 64 ≤ eo c.ks then 22 else if bo h ≠ 0 then bo h
  else if aR (iW c h sh) ≠ 0 then aR (iW c h sh) else (dH c.nx 1 sh c.sz).err
def cQ (c : NL) (h : ir) (sh : Int) : NL × Int × Int :=
  if lj c h sh ≠ 0 then (c, 0, lj c h sh)
  else ({ c with ks := c.ks ++ [⟨(dH c.nx 1 sh c.sz).st, h.svc, h.mth, h.late, h.metas, [], []⟩], ou := c.ou ++ [iW c h sh], la := c.nx, nx := c.nx + 1 }, c.nx, 0)
def jT (c : NL) (f : aY) (chk : Int) : Int := match dO f.strm c.ks 0 with
  | none => 10
  | some i => if chk ≠ 0 then chk else if (cy (mG c i).ob (mG c i).st).err ≠ 0 then (cy (mG c i).ob (mG c i).st).err else (bD (cy (mG c i).ob (mG c i).st).st f).err
def eM (c : NL) (f : aY) (chk : Int) : NL × Int :=
  if jT c f chk ≠ 0 then (c, jT c f chk) else (fw (gb c ((dO f.strm c.ks 0).getD 0) (fun k => { k with ob := k.ob ++ [f] })) ((dO f.strm c.ks 0).getD 0), 0)
def ni (c : NL) (msg : ByteArray) : Int := if 16384 < msg.size ∨ c.sz < aI msg then 3 else 0
def dL (c : NL) (id : Int) (msg : ByteArray) : NL × Int := eM c ⟨2, id, 0, msg⟩ (ni c msg)
def B5 (c : NL) (id : Int) : NL × Int := eM c ⟨3, id, 0, emptyB⟩ 0
def B6 (c : NL) (id code : Int) (tx : ByteArray) : NL × Int := eM c ⟨4, id, 0, DK code tx⟩ (bU code tx)
def vO (c : NL) (id code : Int) : Int := match dO id c.ks 0 with
  | none => 10
  | some i => (bD (mG c i).st ⟨5, id, code, emptyB⟩).err
def tm (c : NL) (id code : Int) : NL × Int :=
  if vO c id code ≠ 0 then (c, vO c id code)
  else ({ gb c ((dO id c.ks 0).getD 0) (fun k => eL { k with st := (bD k.st ⟨5, id, code, emptyB⟩).st }) with ou := c.ou ++ [⟨5, id, code, emptyB⟩] }, 0)
def bY (c : NL) (id : Int) : NL × ByteArray × Bool := match dO id c.ks 0 with
  | none => (c, emptyB, false)
  | some i => match (mG c i).ib with
    | [] => (c, emptyB, false)
    | s :: r => (gbC (if (mG c i).st.done = true then gb c i (fun k => { k with ib := r }) else gbK (gb c i (fun k => { k with ib := r })) i id), s, true)
def jF (c : NL) : NL × List aY := ({ c with ou := [] }, c.ou)
def tn (c : NL) (n : Int) : NL × Int := if c.cl = true then (c, 20) else if aR ⟨7, 0, n, emptyB⟩ ≠ 0 then (c, aR ⟨7, 0, n, emptyB⟩) else ({ c with ou := c.ou ++ [⟨7, 0, n, emptyB⟩] }, 0)
def vP (c : NL) : NL := if c.sd = 2 ∧ c.cl = false ∧ c.aw = 0 then { c with ou := c.ou ++ [⟨9, 0, c.la, emptyB⟩], aw := c.la + 1 } else c
def gz (above : Int) (k : KR) : KR := if k.st.done = false ∧ above < k.st.id then eL { k with st := ti k.st 12 emptyB } else k
def tp (c : NL) (above : Int) : NL := { c with ks := c.ks.map (gz above) }
def kR (c : NL) : NL := tp { c with cl := true, ou := [] } 0
def lQ (c : NL) (id : Int) : KR × Bool := match dO id c.ks 0 with
  | none => (Ep, false)
  | some i => (mG c i, true)
def vQ (c : NL) (id : Int) : NL := match dO id c.ks 0 with
  | none => c
  | some i => if (mG c i).st.done = false then c else gbC { c with ks := c.ks.eraseIdx i }
def oI (sd k : Int) : Bool := if sd = 2 then k == 4 || k == 9 else k == 1 || k == 3
def jL (c : NL) (f : aY) : Int :=
  if aR f ≠ 0 ∨ oI c.sd f.kind = true then 1
  else if (f.kind = 1) = (f.strm ≤ c.la) then 11
  else if f.kind = 2 ∧ c.rw.left < aI f.data then 22
  else if f.kind = 6 ∧ f.strm = 0 ∧ (cS c.sw f.num).err ≠ 0 then 6 else 0
def iw (c : NL) (f : aY) : NL :=
  if c.aw ≠ 0 ∨ 64 ≤ eo c.ks ∨ (dH f.strm 2 f.num c.sz).err ≠ 0 ∨ (cP f.data).err ≠ 0 then { c with la := f.strm, ou := c.ou ++ [⟨5, f.strm, 12, emptyB⟩] }
  else { c with la := f.strm, ks := c.ks ++ [⟨(dH f.strm 2 f.num c.sz).st, (cP f.data).head.svc, (cP f.data).head.mth, (cP f.data).head.late, (cP f.data).head.metas, [], []⟩] }
def kM (k : KR) : aY := ⟨5, k.st.id, 11, emptyB⟩
def ep (c : NL) (i : Nat) (f : aY) : NL :=
  if (bQ (mG c i).st f).err ≠ 0 then { gb c i (fun k => eL (if (bD k.st (kM k)).err = 0 then { k with st := (bD k.st (kM k)).st } else k)) with ou := c.ou ++ [kM (mG c i)] }
  else gb c i (fun k => eL { k with st := (bQ k.st f).st })
def pV (c : NL) (i : Nat) (f : aY) : Bool := decide ((bQ (mG c i).st f).err = 0) && !(mG c i).st.done
def dq (c : NL) (f : aY) : NL := if (bV c.rw (aI f.data)).err = 0 then { c with rw := (bV c.rw (aI f.data)).win } else c
def jU (c : NL) (f : aY) : NL := gbC (match dO f.strm c.ks 0 with
  | none => dq c f
  | some i => if pV (dq c f) i f = true then gb (ep (dq c f) i f) i (fun k => { k with ib := k.ib ++ [f.data] }) else ep (dq c f) i f)
def jG (c : NL) : Nat → Nat → NL
  | 0, _ => c
  | n + 1, i => jG (fw c i) n (i + 1)
def gf (c : NL) (f : aY) : NL :=
  if f.strm = 0 then jG (if (cS c.sw f.num).err = 0 then { c with sw := (cS c.sw f.num).win } else c) c.ks.length 0
  else match dO f.strm c.ks 0 with
    | none => c
    | some i => fw (ep c i f) i
def lR (c : NL) (f : aY) : NL :=
  if f.kind = 1 then iw c f else if f.kind = 2 then jU c f
  else if f.kind = 7 then { c with ou := c.ou ++ [⟨8, 0, f.num, emptyB⟩] }
  else if f.kind = 8 then { c with pg := (c.pg ++ [f.num]).drop (c.pg.length + 1 - 16) }
  else if f.kind = 9 then tp { c with aw := if c.aw = 0 ∨ f.num + 1 < c.aw then f.num + 1 else c.aw } f.num
  else gf c f
def aH (c : NL) (f : aY) : NL × Int := if c.cl = true then (c, 20) else if jL c f ≠ 0 then (kR c, jL c f) else (lR c f, 0)
def fg (c : NL) : List aY → Bool → cx → Bool
  | [], _, _ => true
  | f :: r, fst, s => (f.kind == 2 || f.kind == 3 || f.kind == 4) && !(fst && (f.kind != 2 || (decide (aI f.data ≤ s.snd.left) && decide (aI f.data ≤ c.sw.left)))) && fg c r false s
def callOk (c : NL) (k : KR) : Bool :=
  ei k.st && decide (k.st.side = c.sd) && decide (k.st.snd.size = c.sz) && decide (k.st.rcv.size = c.sz) && decide (k.st.snd.held = 0) && decide (bo k.hd = 0) && k.ib.all (fun m => decide (m.size ≤ 16384)) &&
    (if k.st.done = true then decide (k.ob.length = 0) else decide (aW k.ib ≤ k.st.rcv.held) && decide ((cy k.ob k.st).err = 0) && fg c k.ob true k.st)
def qu (c : NL) : Bool := (decide (c.sd = 1) || decide (c.sd = 2)) && decide (1 ≤ c.sz ∧ c.sz ≤ 1048576) && bl c.sw && bl c.rw && decide (c.sw.size = c.sz) && decide (c.rw.size = c.sz) && decide (c.sw.held = 0) && decide (0 ≤ c.la ∧ c.la ≤ 2147483647 ∧ 0 ≤ c.aw ∧ c.aw ≤ 2147483648) &&
  (if c.sd = 2 then decide (c.nx = 1) && decide (c.aw ≤ c.la + 1) else decide (c.nx = c.la + 1))
def ascB : Option Int → List KR → Bool
  | _, [] => true
  | p, k :: r => (match p with | none => true | some x => decide (x < k.st.id)) && ascB (some k.st.id) r
end Go.Proofs.YthiocbcokfondaaGreatDoor.Y
