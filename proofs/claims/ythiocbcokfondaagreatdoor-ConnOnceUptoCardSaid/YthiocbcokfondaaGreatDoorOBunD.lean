/- Texts of this claim merged into one: OWin, OShapes, OStrLaw, OConD. -/
import Derived.Test.YthiocbcokfondaaGreatDoorChecked
import Derived.WalkKit
import Derived.WalkSpells
import Derived.WalkLawsBesides
import Derived.Test.YthiocbcokfondaaGreatDoorOBunS
namespace Go.Proofs.YthiocbcokfondaaGreatDoor
open Go
structure bj where
 size : Int
 left : Int
 held : Int
def bm (w : bj) : Bool := decide (1 ≤ w.size ∧ w.size ≤ 1048576 ∧ 0 ≤ w.left ∧ 0 ≤ w.held ∧ w.left ≤ 1048576 ∧ w.left + w.held ≤ 1048576)
structure qG where
 win : bj
 err : Int
def dA (w : bj) (n : Int) : qG := if bm w = false ∨ n < 0 then ⟨w, 1⟩ else if w.left < n then ⟨w, 22⟩ else ⟨⟨w.size, w.left - n, w.held⟩, 0⟩
def b8 (w : bj) (n : Int) : qG := if bm w = false ∨ n < 0 then ⟨w, 1⟩ else if w.left < n then ⟨w, 22⟩ else ⟨⟨w.size, w.left - n, w.held + n⟩, 0⟩
def cR (w : bj) (n : Int) : qG := if bm w = false ∨ n < 1 then ⟨w, 1⟩ else if 1048576 - w.left - w.held < n then ⟨w, 6⟩ else ⟨⟨w.size, w.left + n, w.held⟩, 0⟩
def ji (n : Int) : qG := if n < 1 ∨ 1048576 < n then ⟨⟨0, 0, 0⟩, 1⟩ else ⟨⟨n, n, 0⟩, 0⟩
end Go.Proofs.YthiocbcokfondaaGreatDoor
namespace Go.Proofs.YthiocbcokfondaaGreatDoor
open Go.RowKit
def B7 (s : Int) : Bool := s == 3 || s == 4
def Ai (s : Int) : Bool := s == 2 || s == 4
def qk (s : Int) : Bool := decide (1 ≤ s) && decide (s ≤ 4)
def c1 (s : Int) : Int := if qk s then (if B7 s then 0 else 1) else 0
def c2 (s : Int) : Int := if qk s then (if B7 s then -1 else 1) else 0
def c3 (s : Int) : Int := if qk s then (if Ai s then 0 else 1) else 0
def c4 (s : Int) : Int := if qk s then (if Ai s then -1 else 1) else 0
theorem kX {fn : Func} {a b c d : Tmp} (h : fn.results = #[.tmp a, .tmp b, .tmp c, .tmp d]) (tmps : Array Value) (P : Program) (w : World) :
 (results fn tmps).run P w = .ok (.tuple #[tmps.getD a undef, tmps.getD b undef, tmps.getD c undef, tmps.getD d undef]) w := by
 simp [results, h]
theorem uw {s : Int} (h : qk s = true) : s = 1 ∨ s = 2 ∨ s = 3 ∨ s = 4 := by simp [qk] at h; omega
theorem yM (s : Int) (w : World) : Calls Tryz.prog 205 #[.int .i64 s] w fun e w' => e = .returned (.bool (qk s)) ∧ w = w' := by
 go_enter Tryz.func205, Tryz.ntmps205
 go_wp2
 all_goals (go_ret; exact ⟨by simp [qk] <;> omega, rfl⟩)
theorem counts (s : Int) (w : World) : Calls Tryz.prog 184 #[.int .i64 s] w fun e w' => e = .returned (.tuple #[.int .i64 (c1 s), .int .i64 (c2 s), .int .i64 (c3 s), .int .i64 (c4 s)]) ∧ w = w' := by
 by_cases hs : qk s = true
 · rcases uw hs with rfl | rfl | rfl | rfl
   all_goals
    clear hs
    go_enter Tryz.func184, Tryz.ntmps184
    go_wp2
    refine bodyPost_ret (kX rfl _ _ _) rfl ⟨?_, rfl⟩
    simp [c1, c2, c3, c4, qk, B7, Ai]
 · have hn : qk s = false := by simpa using hs
   clear hs
   go_enter Tryz.func184, Tryz.ntmps184
   go_wp2_with (go_at_call 205; refine (yM _ _).mono ?_; rintro e w' ⟨rfl, rfl⟩)
   refine bodyPost_ret (kX rfl _ _ _) rfl ⟨?_, rfl⟩
   simp [c1, c2, c3, c4, hn]
end Go.Proofs.YthiocbcokfondaaGreatDoor
namespace Go.Proofs.YthiocbcokfondaaGreatDoor
open Go
structure cE where
 id : Int
 side : Int
 shape : Int
 sent : Int
 got : Int
 se : Bool
 ge : Bool
 done : Bool
 code : Int
 text : ByteArray
 snd : bj
 rcv : bj
def j6 (n : Int) : Int := if n < 0 then 4611686018427387904 else n
def iR (s : cE) : Int := if s.side = 1 then s.sent else s.got
def lL (s : cE) : Int := if s.side = 1 then s.got else s.sent
def pD (s : cE) : Bool := if s.side = 1 then s.se else s.ge
def sD (s : cE) : Bool := if s.side = 1 then s.ge else s.se
def sE (s : cE) : Bool := decide (1 ≤ s.id ∧ s.id ≤ 2147483647 ∧ (s.side = 1 ∨ s.side = 2)) && qk s.shape
def pE (s : cE) : Bool := bm s.snd && bm s.rcv && decide (0 ≤ iR s ∧ iR s ≤ j6 (c2 s.shape) ∧ 0 ≤ lL s ∧ lL s ≤ j6 (c4 s.shape))
def wt (s : cE) : Bool := if s.done = true then s.se && s.ge && decide (bh s.code s.text = 0) else !sD s && (!pD s || decide (c1 s.shape ≤ iR s)) && decide (s.code = 0) && decide (s.text.size = 0)
def dV (s : cE) : Bool := sE s && pE s && wt s
def wu : cE := ⟨0, 0, 0, 0, 0, false, false, false, 0, ⟨#[]⟩, ⟨0, 0, 0⟩, ⟨0, 0, 0⟩⟩
structure yN where
 st : cE
 err : Int
def dq (id side shape size : Int) : yN := if id < 1 ∨ 2147483647 < id ∨ (side ≠ 1 ∧ side ≠ 2) ∨ qk shape = false ∨ (ji size).err ≠ 0 then ⟨wu, 1⟩
 else ⟨⟨id, side, shape, 0, 0, false, false, false, 0, ⟨#[]⟩, (ji size).win, (ji size).win⟩, 0⟩
def aT (d : ByteArray) : Int := if d.size < 1 then 1 else d.size
def dY (s : cE) (c : Int) (t : ByteArray) : cE := { s with se := true, ge := true, done := true, code := c, text := t }
def en (s : cE) (f : bc) : cE := if f.kind = 5 then dY s f.num ⟨#[]⟩ else dY s (bx f.data).code (bx f.data).text
def ia (s : cE) : Bool := decide (iR s < c1 s.shape) || decide (lL s < c3 s.shape) || ((s.shape == 1 || s.shape == 3) && !pD s)
def jr (s : cE) (client : Bool) : Int := j6 (if client = true then c2 s.shape else c4 s.shape)
def bB (s : cE) (f : bc) : yN :=
 if dV s = false ∨ aQ f ≠ 0 ∨ f.strm ≠ s.id then ⟨s, 1⟩
 else if f.kind = 2 then
  if s.done = true ∨ s.se = true then ⟨s, 20⟩ else if jr s (s.side == 1) ≤ s.sent then ⟨s, 11⟩ else if s.snd.size < aT f.data then ⟨s, 3⟩
  else if (dA s.snd (aT f.data)).err ≠ 0 then ⟨s, (dA s.snd (aT f.data)).err⟩ else ⟨{ s with sent := s.sent + 1, snd := (dA s.snd (aT f.data)).win }, 0⟩
 else if f.kind = 3 then
  if s.done = true ∨ s.se = true ∨ s.side ≠ 1 then ⟨s, 20⟩ else if s.sent < c1 s.shape then ⟨s, 11⟩ else ⟨{ s with se := true }, 0⟩
 else if f.kind = 4 then
  if s.done = true ∨ s.side = 1 then ⟨s, 20⟩ else if (bx f.data).code = 0 ∧ ia s = true then ⟨s, 11⟩ else ⟨en s f, 0⟩
 else if f.kind = 5 then (if s.done = true then ⟨s, 20⟩ else ⟨en s f, 0⟩)
 else ⟨s, 1⟩
def bT (s : cE) (f : bc) : yN :=
 if dV s = false ∨ aQ f ≠ 0 ∨ f.strm ≠ s.id ∨ (f.kind < 2 ∨ 6 < f.kind) then ⟨s, 1⟩
 else if s.done = true then ⟨s, 0⟩
 else if f.kind = 2 then
  if s.ge = true then ⟨s, 20⟩ else if jr s (s.side != 1) ≤ s.got then ⟨s, 11⟩ else if s.rcv.size < aT f.data then ⟨s, 3⟩
  else if (b8 s.rcv (aT f.data)).err ≠ 0 then ⟨s, (b8 s.rcv (aT f.data)).err⟩ else ⟨{ s with got := s.got + 1, rcv := (b8 s.rcv (aT f.data)).win }, 0⟩
 else if f.kind = 3 then
  if s.ge = true ∨ s.side = 1 then ⟨s, 20⟩ else if s.got < c1 s.shape then ⟨s, 11⟩ else ⟨{ s with ge := true }, 0⟩
 else if f.kind = 4 then
  if s.side ≠ 1 then ⟨s, 20⟩ else if (bx f.data).code = 0 ∧ ia s = true then ⟨s, 11⟩ else ⟨en s f, 0⟩
 else if f.kind = 5 then ⟨en s f, 0⟩
 else if (cR s.snd f.num).err ≠ 0 then ⟨s, (cR s.snd f.num).err⟩ else ⟨{ s with snd := (cR s.snd f.num).win }, 0⟩
def nb (s : cE) (c : Int) (t : ByteArray) : cE := if s.done = true ∨ dV s = false ∨ bh c t ≠ 0 then s else dY s c t
end Go.Proofs.YthiocbcokfondaaGreatDoor
namespace Go.Proofs.YthiocbcokfondaaGreatDoor.Y
structure KR where
 st : cE
 sv : ByteArray
 mt : ByteArray
 lt : Int
 ms : List (ByteArray × ByteArray)
 ib : List ByteArray
 ob : List bc
def KR.hd (k : KR) : jh := ⟨k.sv, k.mt, k.lt, k.ms⟩
structure NL where
 sd : Int
 nx : Int
 la : Int
 aw : Int
 sz : Int
 sw : bj
 rw : bj
 ks : List KR
 ou : List bc
 pg : List Int
 cl : Bool
def Bl : bj := ⟨0, 0, 0⟩
def CQ : NL := ⟨0, 0, 0, 0, 0, Bl, Bl, [], [], [], false⟩
def B8 : KR := ⟨wu, emptyB, emptyB, 0, [], [], []⟩
def fQ (sd sz : Int) : NL × Int := if (sd ≠ 1 ∧ sd ≠ 2) ∨ (ji sz).err ≠ 0 then (CQ, 1) else (⟨sd, 1, 0, 0, sz, (ji sz).win, (ji sz).win, [], [], [], false⟩, 0)
def cu (id : Int) : List KR → Nat → Option Nat
 | [], _ => none
 | k :: r, i => if k.st.id = id then some i else cu id r (i + 1)
def lw (c : NL) (i : Nat) : KR := (c.ks[i]?).getD B8
def d7 (c : NL) (i : Nat) (g : KR → KR) : NL := { c with ks := c.ks.set i (g (lw c i)) }
def aY : List ByteArray → Int
 | [] => 0
 | s :: r => aT s + aY r
def bg : List KR → Int
 | [] => 0
 | k :: r => aY k.ib + bg r
def dN (l : List KR) : Nat := l.countP fun k => !k.st.done
def yO (w : bj) : Int := if bm w = false ∨ w.held = 0 ∨ 2 * w.held < w.size then 0 else w.held
def d8 (w : bj) (u : Int) : Int := if u = 0 then w.held else yO ⟨w.size, w.left, w.held - u⟩
def wv (w : bj) (n : Int) : bj := ⟨w.size, w.left + n, w.held - n⟩
def gbC (c : NL) : NL := if c.cl = true ∨ d8 c.rw (bg c.ks) ≤ 0 then c else { c with rw := wv c.rw (d8 c.rw (bg c.ks)), ou := c.ou ++ [⟨6, 0, d8 c.rw (bg c.ks), emptyB⟩] }
def pF (c : NL) (i : Nat) : Int := d8 (lw c i).st.rcv (aY (lw c i).ib)
def gbK (c : NL) (i : Nat) (id : Int) : NL := if c.cl = true ∨ pF c i ≤ 0 then c else { d7 c i (fun k => { k with st := { k.st with rcv := wv k.st.rcv (pF c i) } }) with ou := c.ou ++ [⟨6, id, pF c i, emptyB⟩] }
def dO (k : KR) : KR := if k.st.done = true then { k with ob := [] } else k
def b9 (f : bc) : Int := if f.kind = 2 then aT f.data else 0
structure B9 where
 st : cE
 w : bj
 ob : List bc
 ou : List bc
def jk : List bc → cE → bj → List bc → B9
 | [], s, w, o => ⟨s, w, [], o⟩
 | f :: r, s, w, o =>
  if s.snd.left < b9 f ∨ w.left < b9 f then ⟨s, w, f :: r, o⟩
  else if (bB s f).err ≠ 0 then ⟨s, w, f :: r, o⟩
  else if (dA w (b9 f)).err ≠ 0 then ⟨s, w, f :: r, o⟩
  else if (bB s f).st.done = true then ⟨(bB s f).st, (dA w (b9 f)).win, [], o ++ [f]⟩
  else jk r (bB s f).st (dA w (b9 f)).win (o ++ [f])
def ux (c : NL) (i : Nat) : B9 := jk (lw c i).ob (lw c i).st c.sw c.ou
def eH (c : NL) (i : Nat) : NL := { d7 c i (fun k => { k with st := (ux c i).st, ob := (ux c i).ob }) with sw := (ux c i).w, ou := (ux c i).ou }
def fW (s : cE) : cE := { s with snd := ⟨s.snd.size, 1048576, s.snd.held⟩ }
def db : List bc → cE → yN
 | [], s => ⟨fW s, 0⟩
 | f :: r, s => if (bB (fW s) f).err ≠ 0 then ⟨fW s, (bB (fW s) f).err⟩ else db r (bB (fW s) f).st
def nc (h : jh) : ByteArray := ⟨(kc h).bytes.toArray⟩
def eB (c : NL) (h : jh) (sh : Int) : bc := ⟨1, c.nx, sh, nc h⟩
def lM (c : NL) (h : jh) (sh : Int) : Int :=
 if c.sd ≠ 1 ∨ c.cl = true ∨ c.aw ≠ 0 then 20 else if 64 ≤ dN c.ks then 22 else if bi h ≠ 0 then bi h
 else if aQ (eB c h sh) ≠ 0 then aQ (eB c h sh) else (dq c.nx 1 sh c.sz).err
def bu (c : NL) (h : jh) (sh : Int) : NL × Int × Int :=
 if lM c h sh ≠ 0 then (c, 0, lM c h sh)
 else ({ c with ks := c.ks ++ [⟨(dq c.nx 1 sh c.sz).st, h.svc, h.mth, h.late, h.metas, [], []⟩], ou := c.ou ++ [eB c h sh], la := c.nx, nx := c.nx + 1 }, c.nx, 0)
def fE (c : NL) (f : bc) (chk : Int) : Int := match cu f.strm c.ks 0 with
 | none => 10
 | some i => if chk ≠ 0 then chk else if (db (lw c i).ob (lw c i).st).err ≠ 0 then (db (lw c i).ob (lw c i).st).err else (bB (db (lw c i).ob (lw c i).st).st f).err
def bG (c : NL) (f : bc) (chk : Int) : NL × Int :=
 if fE c f chk ≠ 0 then (c, fE c f chk) else (eH (d7 c ((cu f.strm c.ks 0).getD 0) (fun k => { k with ob := k.ob ++ [f] })) ((cu f.strm c.ks 0).getD 0), 0)
def zJ (c : NL) (msg : ByteArray) : Int := if 16384 < msg.size ∨ c.sz < aT msg then 3 else 0
def jb (c : NL) (id : Int) (msg : ByteArray) : NL × Int := bG c ⟨2, id, 0, msg⟩ (zJ c msg)
def kg (c : NL) (id : Int) : NL × Int := bG c ⟨3, id, 0, emptyB⟩ 0
def kh (c : NL) (id code : Int) (tx : ByteArray) : NL × Int := bG c ⟨4, id, 0, kb code tx⟩ (bh code tx)
def jt (c : NL) (id code : Int) : Int := match cu id c.ks 0 with
 | none => 10
 | some i => (bB (lw c i).st ⟨5, id, code, emptyB⟩).err
def eC (c : NL) (id code : Int) : NL × Int :=
 if jt c id code ≠ 0 then (c, jt c id code)
 else ({ d7 c ((cu id c.ks 0).getD 0) (fun k => dO { k with st := (bB k.st ⟨5, id, code, emptyB⟩).st }) with ou := c.ou ++ [⟨5, id, code, emptyB⟩] }, 0)
def dD (c : NL) (id : Int) : NL × ByteArray × Bool := match cu id c.ks 0 with
 | none => (c, emptyB, false)
 | some i => match (lw c i).ib with
  | [] => (c, emptyB, false)
  | s :: r => (gbC (if (lw c i).st.done = true then d7 c i (fun k => { k with ib := r }) else gbK (d7 c i (fun k => { k with ib := r })) i id), s, true)
def kY (c : NL) : NL × List bc := ({ c with ou := [] }, c.ou)
def eT (c : NL) (n : Int) : NL × Int := if c.cl = true then (c, 20) else if aQ ⟨7, 0, n, emptyB⟩ ≠ 0 then (c, aQ ⟨7, 0, n, emptyB⟩) else ({ c with ou := c.ou ++ [⟨7, 0, n, emptyB⟩] }, 0)
def iv (c : NL) : NL := if c.sd = 2 ∧ c.cl = false ∧ c.aw = 0 then { c with ou := c.ou ++ [⟨9, 0, c.la, emptyB⟩], aw := c.la + 1 } else c
def ff (above : Int) (k : KR) : KR := if k.st.done = false ∧ above < k.st.id then dO { k with st := nb k.st 12 emptyB } else k
def pG (c : NL) (above : Int) : NL := { c with ks := c.ks.map (ff above) }
def eU (c : NL) : NL := pG { c with cl := true, ou := [] } 0
def gN (c : NL) (id : Int) : KR × Bool := match cu id c.ks 0 with
 | none => (B8, false)
 | some i => (lw c i, true)
def fF (c : NL) (id : Int) : NL := match cu id c.ks 0 with
 | none => c
 | some i => if (lw c i).st.done = false then c else gbC { c with ks := c.ks.eraseIdx i }
def qH (sd k : Int) : Bool := if sd = 2 then k == 4 || k == 9 else k == 1 || k == 3
def j7 (c : NL) (f : bc) : Int :=
 if aQ f ≠ 0 ∨ qH c.sd f.kind = true then 1
 else if (f.kind = 1) = (f.strm ≤ c.la) then 11
 else if f.kind = 2 ∧ c.rw.left < aT f.data then 22
 else if f.kind = 6 ∧ f.strm = 0 ∧ (cR c.sw f.num).err ≠ 0 then 6 else 0
def gO (c : NL) (f : bc) : NL :=
 if c.aw ≠ 0 ∨ 64 ≤ dN c.ks ∨ (dq f.strm 2 f.num c.sz).err ≠ 0 ∨ (cU f.data).err ≠ 0 then { c with la := f.strm, ou := c.ou ++ [⟨5, f.strm, 12, emptyB⟩] }
 else { c with la := f.strm, ks := c.ks ++ [⟨(dq f.strm 2 f.num c.sz).st, (cU f.data).head.svc, (cU f.data).head.mth, (cU f.data).head.late, (cU f.data).head.metas, [], []⟩] }
def j8 (k : KR) : bc := ⟨5, k.st.id, 11, emptyB⟩
def eo (c : NL) (i : Nat) (f : bc) : NL :=
 if (bT (lw c i).st f).err ≠ 0 then { d7 c i (fun k => dO (if (bB k.st (j8 k)).err = 0 then { k with st := (bB k.st (j8 k)).st } else k)) with ou := c.ou ++ [j8 (lw c i)] }
 else d7 c i (fun k => dO { k with st := (bT k.st f).st })
def qI (c : NL) (i : Nat) (f : bc) : Bool := decide ((bT (lw c i).st f).err = 0) && !(lw c i).st.done
def dF (c : NL) (f : bc) : NL := if (b8 c.rw (aT f.data)).err = 0 then { c with rw := (b8 c.rw (aT f.data)).win } else c
def kZ (c : NL) (f : bc) : NL := gbC (match cu f.strm c.ks 0 with
 | none => dF c f
 | some i => if qI (dF c f) i f = true then d7 (eo (dF c f) i f) i (fun k => { k with ib := k.ib ++ [f.data] }) else eo (dF c f) i f)
def iw (c : NL) : Nat → Nat → NL
 | 0, _ => c
 | n + 1, i => iw (eH c i) n (i + 1)
def fR (c : NL) (f : bc) : NL :=
 if f.strm = 0 then iw (if (cR c.sw f.num).err = 0 then { c with sw := (cR c.sw f.num).win } else c) c.ks.length 0
 else match cu f.strm c.ks 0 with
  | none => c
  | some i => eH (eo c i f) i
def pH (c : NL) (f : bc) : NL :=
 if f.kind = 1 then gO c f else if f.kind = 2 then kZ c f
 else if f.kind = 7 then { c with ou := c.ou ++ [⟨8, 0, f.num, emptyB⟩] }
 else if f.kind = 8 then { c with pg := (c.pg ++ [f.num]).drop (c.pg.length + 1 - 16) }
 else if f.kind = 9 then pG { c with aw := if c.aw = 0 ∨ f.num + 1 < c.aw then f.num + 1 else c.aw } f.num
 else fR c f
def dG (c : NL) (f : bc) : NL × Int := if c.cl = true then (c, 20) else if j7 c f ≠ 0 then (eU c, j7 c f) else (pH c f, 0)
def eI (c : NL) : List bc → Bool → cE → Bool
 | [], _, _ => true
 | f :: r, fst, s => (f.kind == 2 || f.kind == 3 || f.kind == 4) && !(fst && (f.kind != 2 || (decide (aT f.data ≤ s.snd.left) && decide (aT f.data ≤ c.sw.left)))) && eI c r false s
def callOk (c : NL) (k : KR) : Bool :=
 dV k.st && decide (k.st.side = c.sd) && decide (k.st.snd.size = c.sz) && decide (k.st.rcv.size = c.sz) && decide (k.st.snd.held = 0) && decide (bi k.hd = 0) && k.ib.all (fun m => decide (m.size ≤ 16384)) &&
  (if k.st.done = true then decide (k.ob.length = 0) else decide (aY k.ib ≤ k.st.rcv.held) && decide ((db k.ob k.st).err = 0) && eI c k.ob true k.st)
def oE (c : NL) : Bool := (decide (c.sd = 1) || decide (c.sd = 2)) && decide (1 ≤ c.sz ∧ c.sz ≤ 1048576) && bm c.sw && bm c.rw && decide (c.sw.size = c.sz) && decide (c.rw.size = c.sz) && decide (c.sw.held = 0) && decide (0 ≤ c.la ∧ c.la ≤ 2147483647 ∧ 0 ≤ c.aw ∧ c.aw ≤ 2147483648) &&
 (if c.sd = 2 then decide (c.nx = 1) && decide (c.aw ≤ c.la + 1) else decide (c.nx = c.la + 1))
def ascB : Option Int → List KR → Bool
 | _, [] => true
 | p, k :: r => (match p with | none => true | some x => decide (x < k.st.id)) && ascB (some k.st.id) r
end Go.Proofs.YthiocbcokfondaaGreatDoor.Y
