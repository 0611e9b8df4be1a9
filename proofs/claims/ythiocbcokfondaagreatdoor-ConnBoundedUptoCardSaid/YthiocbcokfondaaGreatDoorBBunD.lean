/- Texts of this claim merged into one: BWin, BShapes, BStrLaw, BConD. -/
import Derived.Test.YthiocbcokfondaaGreatDoorChecked
import Derived.WalkKit
import Derived.WalkSpells
import Derived.WalkLawsBesides
import Derived.Test.YthiocbcokfondaaGreatDoorBBunS
namespace Go.Proofs.YthiocbcokfondaaGreatDoor
open Go
structure bm where
 size : Int
 left : Int
 held : Int
def bq (w : bm) : Bool := decide (1 ≤ w.size ∧ w.size ≤ 1048576 ∧ 0 ≤ w.left ∧ 0 ≤ w.held ∧ w.left ≤ 1048576 ∧ w.left + w.held ≤ 1048576)
structure qP where
 win : bm
 err : Int
def dE (w : bm) (n : Int) : qP := if bq w = false ∨ n < 0 then ⟨w, 1⟩ else if w.left < n then ⟨w, 22⟩ else ⟨⟨w.size, w.left - n, w.held⟩, 0⟩
def cb (w : bm) (n : Int) : qP := if bq w = false ∨ n < 0 then ⟨w, 1⟩ else if w.left < n then ⟨w, 22⟩ else ⟨⟨w.size, w.left - n, w.held + n⟩, 0⟩
def cW (w : bm) (n : Int) : qP := if bq w = false ∨ n < 1 then ⟨w, 1⟩ else if 1048576 - w.left - w.held < n then ⟨w, 6⟩ else ⟨⟨w.size, w.left + n, w.held⟩, 0⟩
def iE (n : Int) : qP := if n < 1 ∨ 1048576 < n then ⟨⟨0, 0, 0⟩, 1⟩ else ⟨⟨n, n, 0⟩, 0⟩
end Go.Proofs.YthiocbcokfondaaGreatDoor
namespace Go.Proofs.YthiocbcokfondaaGreatDoor
open Go.RowKit
def Cb (s : Int) : Bool := s == 3 || s == 4
def Ak (s : Int) : Bool := s == 2 || s == 4
def qs (s : Int) : Bool := decide (1 ≤ s) && decide (s ≤ 4)
def c1 (s : Int) : Int := if qs s then (if Cb s then 0 else 1) else 0
def c2 (s : Int) : Int := if qs s then (if Cb s then -1 else 1) else 0
def c3 (s : Int) : Int := if qs s then (if Ak s then 0 else 1) else 0
def c4 (s : Int) : Int := if qs s then (if Ak s then -1 else 1) else 0
theorem lb {fn : Func} {a b c d : Tmp} (h : fn.results = #[.tmp a, .tmp b, .tmp c, .tmp d]) (tmps : Array Value) (P : Program) (w : World) :
 (results fn tmps).run P w = .ok (.tuple #[tmps.getD a undef, tmps.getD b undef, tmps.getD c undef, tmps.getD d undef]) w := by
 simp [results, h]
theorem uE {s : Int} (h : qs s = true) : s = 1 ∨ s = 2 ∨ s = 3 ∨ s = 4 := by simp [qs] at h; omega
theorem yU (s : Int) (w : World) : Calls Tryz.prog 205 #[.int .i64 s] w fun e w' => e = .returned (.bool (qs s)) ∧ w = w' := by
 go_enter Tryz.func205, Tryz.ntmps205
 go_wp2
 all_goals (go_ret; exact ⟨by simp [qs] <;> omega, rfl⟩)
theorem counts (s : Int) (w : World) : Calls Tryz.prog 184 #[.int .i64 s] w fun e w' => e = .returned (.tuple #[.int .i64 (c1 s), .int .i64 (c2 s), .int .i64 (c3 s), .int .i64 (c4 s)]) ∧ w = w' := by
 by_cases hs : qs s = true
 · rcases uE hs with rfl | rfl | rfl | rfl
   all_goals
    clear hs
    go_enter Tryz.func184, Tryz.ntmps184
    go_wp2
    refine bodyPost_ret (lb rfl _ _ _) rfl ⟨?_, rfl⟩
    simp [c1, c2, c3, c4, qs, Cb, Ak]
 · have hn : qs s = false := by simpa using hs
   clear hs
   go_enter Tryz.func184, Tryz.ntmps184
   go_wp2_with (go_at_call 205; refine (yU _ _).mono ?_; rintro e w' ⟨rfl, rfl⟩)
   refine bodyPost_ret (lb rfl _ _ _) rfl ⟨?_, rfl⟩
   simp [c1, c2, c3, c4, hn]
end Go.Proofs.YthiocbcokfondaaGreatDoor
namespace Go.Proofs.YthiocbcokfondaaGreatDoor
open Go
structure cJ where
 id : Int
 side : Int
 shape : Int
 sent : Int
 got : Int
 se : Bool
 ge : Bool
 done : Bool
 code : Int
 text : ByteArray
 snd : bm
 rcv : bm
def ke (n : Int) : Int := if n < 0 then 4611686018427387904 else n
def i7 (s : cJ) : Int := if s.side = 1 then s.sent else s.got
def lU (s : cJ) : Int := if s.side = 1 then s.got else s.sent
def pM (s : cJ) : Bool := if s.side = 1 then s.se else s.ge
def sN (s : cJ) : Bool := if s.side = 1 then s.ge else s.se
def sO (s : cJ) : Bool := decide (1 ≤ s.id ∧ s.id ≤ 2147483647 ∧ (s.side = 1 ∨ s.side = 2)) && qs s.shape
def pN (s : cJ) : Bool := bq s.snd && bq s.rcv && decide (0 ≤ i7 s ∧ i7 s ≤ ke (c2 s.shape) ∧ 0 ≤ lU s ∧ lU s ≤ ke (c4 s.shape))
def wF (s : cJ) : Bool := if s.done = true then s.se && s.ge && decide (bj s.code s.text = 0) else !sN s && (!pM s || decide (c1 s.shape ≤ i7 s)) && decide (s.code = 0) && decide (s.text.size = 0)
def dY (s : cJ) : Bool := sO s && pN s && wF s
def wG : cJ := ⟨0, 0, 0, 0, 0, false, false, false, 0, ⟨#[]⟩, ⟨0, 0, 0⟩, ⟨0, 0, 0⟩⟩
structure yV where
 st : cJ
 err : Int
def dv (id side shape size : Int) : yV := if id < 1 ∨ 2147483647 < id ∨ (side ≠ 1 ∧ side ≠ 2) ∨ qs shape = false ∨ (iE size).err ≠ 0 then ⟨wG, 1⟩
 else ⟨⟨id, side, shape, 0, 0, false, false, false, 0, ⟨#[]⟩, (iE size).win, (iE size).win⟩, 0⟩
def aT (d : ByteArray) : Int := if d.size < 1 then 1 else d.size
def ea (s : cJ) (c : Int) (t : ByteArray) : cJ := { s with se := true, ge := true, done := true, code := c, text := t }
def eC (s : cJ) (f : bd) : cJ := if f.kind = 5 then ea s f.num ⟨#[]⟩ else ea s (bA f.data).code (bA f.data).text
def im (s : cJ) : Bool := decide (i7 s < c1 s.shape) || decide (lU s < c3 s.shape) || ((s.shape == 1 || s.shape == 3) && !pM s)
def jC (s : cJ) (client : Bool) : Int := ke (if client = true then c2 s.shape else c4 s.shape)
def bE (s : cJ) (f : bd) : yV :=
 if dY s = false ∨ aQ f ≠ 0 ∨ f.strm ≠ s.id then ⟨s, 1⟩
 else if f.kind = 2 then
  if s.done = true ∨ s.se = true then ⟨s, 20⟩ else if jC s (s.side == 1) ≤ s.sent then ⟨s, 11⟩ else if s.snd.size < aT f.data then ⟨s, 3⟩
  else if (dE s.snd (aT f.data)).err ≠ 0 then ⟨s, (dE s.snd (aT f.data)).err⟩ else ⟨{ s with sent := s.sent + 1, snd := (dE s.snd (aT f.data)).win }, 0⟩
 else if f.kind = 3 then
  if s.done = true ∨ s.se = true ∨ s.side ≠ 1 then ⟨s, 20⟩ else if s.sent < c1 s.shape then ⟨s, 11⟩ else ⟨{ s with se := true }, 0⟩
 else if f.kind = 4 then
  if s.done = true ∨ s.side = 1 then ⟨s, 20⟩ else if (bA f.data).code = 0 ∧ im s = true then ⟨s, 11⟩ else ⟨eC s f, 0⟩
 else if f.kind = 5 then (if s.done = true then ⟨s, 20⟩ else ⟨eC s f, 0⟩)
 else ⟨s, 1⟩
def bY (s : cJ) (f : bd) : yV :=
 if dY s = false ∨ aQ f ≠ 0 ∨ f.strm ≠ s.id ∨ (f.kind < 2 ∨ 6 < f.kind) then ⟨s, 1⟩
 else if s.done = true then ⟨s, 0⟩
 else if f.kind = 2 then
  if s.ge = true then ⟨s, 20⟩ else if jC s (s.side != 1) ≤ s.got then ⟨s, 11⟩ else if s.rcv.size < aT f.data then ⟨s, 3⟩
  else if (cb s.rcv (aT f.data)).err ≠ 0 then ⟨s, (cb s.rcv (aT f.data)).err⟩ else ⟨{ s with got := s.got + 1, rcv := (cb s.rcv (aT f.data)).win }, 0⟩
 else if f.kind = 3 then
  if s.ge = true ∨ s.side = 1 then ⟨s, 20⟩ else if s.got < c1 s.shape then ⟨s, 11⟩ else ⟨{ s with ge := true }, 0⟩
 else if f.kind = 4 then
  if s.side ≠ 1 then ⟨s, 20⟩ else if (bA f.data).code = 0 ∧ im s = true then ⟨s, 11⟩ else ⟨eC s f, 0⟩
 else if f.kind = 5 then ⟨eC s f, 0⟩
 else if (cW s.snd f.num).err ≠ 0 then ⟨s, (cW s.snd f.num).err⟩ else ⟨{ s with snd := (cW s.snd f.num).win }, 0⟩
def qQ (s : cJ) (c : Int) (t : ByteArray) : cJ := if s.done = true ∨ dY s = false ∨ bj c t ≠ 0 then s else ea s c t
end Go.Proofs.YthiocbcokfondaaGreatDoor
namespace Go.Proofs.YthiocbcokfondaaGreatDoor.Y
structure KR where
 st : cJ
 sv : ByteArray
 mt : ByteArray
 lt : Int
 ms : List (ByteArray × ByteArray)
 ib : List ByteArray
 ob : List bd
def KR.hd (k : KR) : ju := ⟨k.sv, k.mt, k.lt, k.ms⟩
structure NL where
 sd : Int
 nx : Int
 la : Int
 aw : Int
 sz : Int
 sw : bm
 rw : bm
 ks : List KR
 ou : List bd
 pg : List Int
 cl : Bool
def Bm : bm := ⟨0, 0, 0⟩
def CS : NL := ⟨0, 0, 0, 0, 0, Bm, Bm, [], [], [], false⟩
def Cc : KR := ⟨wG, emptyB, emptyB, 0, [], [], []⟩
def eZ (sd sz : Int) : NL × Int := if (sd ≠ 1 ∧ sd ≠ 2) ∨ (iE sz).err ≠ 0 then (CS, 1) else (⟨sd, 1, 0, 0, sz, (iE sz).win, (iE sz).win, [], [], [], false⟩, 0)
def cX (id : Int) : List KR → Nat → Option Nat
 | [], _ => none
 | k :: r, i => if k.st.id = id then some i else cX id r (i + 1)
def ld (c : NL) (i : Nat) : KR := (c.ks[i]?).getD Cc
def eb (c : NL) (i : Nat) (g : KR → KR) : NL := { c with ks := c.ks.set i (g (ld c i)) }
def aZ : List ByteArray → Int
 | [] => 0
 | s :: r => aT s + aZ r
def bh : List KR → Int
 | [] => 0
 | k :: r => aZ k.ib + bh r
def dS (l : List KR) : Nat := l.countP fun k => !k.st.done
def yW (w : bm) : Int := if bq w = false ∨ w.held = 0 ∨ 2 * w.held < w.size then 0 else w.held
def ec (w : bm) (u : Int) : Int := if u = 0 then w.held else yW ⟨w.size, w.left, w.held - u⟩
def yi (w : bm) (n : Int) : bm := ⟨w.size, w.left + n, w.held - n⟩
def gbC (c : NL) : NL := if c.cl = true ∨ ec c.rw (bh c.ks) ≤ 0 then c else { c with rw := yi c.rw (ec c.rw (bh c.ks)), ou := c.ou ++ [⟨6, 0, ec c.rw (bh c.ks), emptyB⟩] }
def qR (c : NL) (i : Nat) : Int := ec (ld c i).st.rcv (aZ (ld c i).ib)
def gbK (c : NL) (i : Nat) (id : Int) : NL := if c.cl = true ∨ qR c i ≤ 0 then c else { eb c i (fun k => { k with st := { k.st with rcv := yi k.st.rcv (qR c i) } }) with ou := c.ou ++ [⟨6, id, qR c i, emptyB⟩] }
def ez (k : KR) : KR := if k.st.done = true then { k with ob := [] } else k
def bz (f : bd) : Int := if f.kind = 2 then aT f.data else 0
structure Ce where
 st : cJ
 w : bm
 ob : List bd
 ou : List bd
def jW : List bd → cJ → bm → List bd → Ce
 | [], s, w, o => ⟨s, w, [], o⟩
 | f :: r, s, w, o =>
  if s.snd.left < bz f ∨ w.left < bz f then ⟨s, w, f :: r, o⟩
  else if (bE s f).err ≠ 0 then ⟨s, w, f :: r, o⟩
  else if (dE w (bz f)).err ≠ 0 then ⟨s, w, f :: r, o⟩
  else if (bE s f).st.done = true then ⟨(bE s f).st, (dE w (bz f)).win, [], o ++ [f]⟩
  else jW r (bE s f).st (dE w (bz f)).win (o ++ [f])
def uF (c : NL) (i : Nat) : Ce := jW (ld c i).ob (ld c i).st c.sw c.ou
def eM (c : NL) (i : Nat) : NL := { eb c i (fun k => { k with st := (uF c i).st, ob := (uF c i).ob }) with sw := (uF c i).w, ou := (uF c i).ou }
def f9 (s : cJ) : cJ := { s with snd := ⟨s.snd.size, 1048576, s.snd.held⟩ }
def dh : List bd → cJ → yV
 | [], s => ⟨f9 s, 0⟩
 | f :: r, s => if (bE (f9 s) f).err ≠ 0 then ⟨f9 s, (bE (f9 s) f).err⟩ else dh r (bE (f9 s) f).st
def nl (h : ju) : ByteArray := ⟨(kk h).bytes.toArray⟩
def eA (c : NL) (h : ju) (sh : Int) : bd := ⟨1, c.nx, sh, nl h⟩
def lV (c : NL) (h : ju) (sh : Int) : Int :=
 if c.sd ≠ 1 ∨ c.cl = true ∨ c.aw ≠ 0 then 20 else if 64 ≤ dS c.ks then 22 else if bk h ≠ 0 then bk h
 else if aQ (eA c h sh) ≠ 0 then aQ (eA c h sh) else (dv c.nx 1 sh c.sz).err
def bx (c : NL) (h : ju) (sh : Int) : NL × Int × Int :=
 if lV c h sh ≠ 0 then (c, 0, lV c h sh)
 else ({ c with ks := c.ks ++ [⟨(dv c.nx 1 sh c.sz).st, h.svc, h.mth, h.late, h.metas, [], []⟩], ou := c.ou ++ [eA c h sh], la := c.nx, nx := c.nx + 1 }, c.nx, 0)
def fK (c : NL) (f : bd) (chk : Int) : Int := match cX f.strm c.ks 0 with
 | none => 10
 | some i => if chk ≠ 0 then chk else if (dh (ld c i).ob (ld c i).st).err ≠ 0 then (dh (ld c i).ob (ld c i).st).err else (bE (dh (ld c i).ob (ld c i).st).st f).err
def bJ (c : NL) (f : bd) (chk : Int) : NL × Int :=
 if fK c f chk ≠ 0 then (c, fK c f chk) else (eM (eb c ((cX f.strm c.ks 0).getD 0) (fun k => { k with ob := k.ob ++ [f] })) ((cX f.strm c.ks 0).getD 0), 0)
def zK (c : NL) (msg : ByteArray) : Int := if 16384 < msg.size ∨ c.sz < aT msg then 3 else 0
def jm (c : NL) (id : Int) (msg : ByteArray) : NL × Int := bJ c ⟨2, id, 0, msg⟩ (zK c msg)
def km (c : NL) (id : Int) : NL × Int := bJ c ⟨3, id, 0, emptyB⟩ 0
def kn (c : NL) (id code : Int) (tx : ByteArray) : NL × Int := bJ c ⟨4, id, 0, kj code tx⟩ (bj code tx)
def lf (c : NL) (id code : Int) : Int := match cX id c.ks 0 with
 | none => 10
 | some i => (bE (ld c i).st ⟨5, id, code, emptyB⟩).err
def eT (c : NL) (id code : Int) : NL × Int :=
 if lf c id code ≠ 0 then (c, lf c id code)
 else ({ eb c ((cX id c.ks 0).getD 0) (fun k => ez { k with st := (bE k.st ⟨5, id, code, emptyB⟩).st }) with ou := c.ou ++ [⟨5, id, code, emptyB⟩] }, 0)
def dK (c : NL) (id : Int) : NL × ByteArray × Bool := match cX id c.ks 0 with
 | none => (c, emptyB, false)
 | some i => match (ld c i).ib with
  | [] => (c, emptyB, false)
  | s :: r => (gbC (if (ld c i).st.done = true then eb c i (fun k => { k with ib := r }) else gbK (eb c i (fun k => { k with ib := r })) i id), s, true)
def iF (c : NL) : NL × List bd := ({ c with ou := [] }, c.ou)
def e9 (c : NL) (n : Int) : NL × Int := if c.cl = true then (c, 20) else if aQ ⟨7, 0, n, emptyB⟩ ≠ 0 then (c, aQ ⟨7, 0, n, emptyB⟩) else ({ c with ou := c.ou ++ [⟨7, 0, n, emptyB⟩] }, 0)
def iG (c : NL) : NL := if c.sd = 2 ∧ c.cl = false ∧ c.aw = 0 then { c with ou := c.ou ++ [⟨9, 0, c.la, emptyB⟩], aw := c.la + 1 } else c
def fU (above : Int) (k : KR) : KR := if k.st.done = false ∧ above < k.st.id then ez { k with st := qQ k.st 12 emptyB } else k
def pO (c : NL) (above : Int) : NL := { c with ks := c.ks.map (fU above) }
def gU (c : NL) : NL := pO { c with cl := true, ou := [] } 0
def lg (c : NL) (id : Int) : KR × Bool := match cX id c.ks 0 with
 | none => (Cc, false)
 | some i => (ld c i, true)
def fZ (c : NL) (id : Int) : NL := match cX id c.ks 0 with
 | none => c
 | some i => if (ld c i).st.done = false then c else gbC { c with ks := c.ks.eraseIdx i }
def qS (sd k : Int) : Bool := if sd = 2 then k == 4 || k == 9 else k == 1 || k == 3
def kg (c : NL) (f : bd) : Int :=
 if aQ f ≠ 0 ∨ qS c.sd f.kind = true then 1
 else if (f.kind = 1) = (f.strm ≤ c.la) then 11
 else if f.kind = 2 ∧ c.rw.left < aT f.data then 22
 else if f.kind = 6 ∧ f.strm = 0 ∧ (cW c.sw f.num).err ≠ 0 then 6 else 0
def gV (c : NL) (f : bd) : NL :=
 if c.aw ≠ 0 ∨ 64 ≤ dS c.ks ∨ (dv f.strm 2 f.num c.sz).err ≠ 0 ∨ (db f.data).err ≠ 0 then { c with la := f.strm, ou := c.ou ++ [⟨5, f.strm, 12, emptyB⟩] }
 else { c with la := f.strm, ks := c.ks ++ [⟨(dv f.strm 2 f.num c.sz).st, (db f.data).head.svc, (db f.data).head.mth, (db f.data).head.late, (db f.data).head.metas, [], []⟩] }
def jD (k : KR) : bd := ⟨5, k.st.id, 11, emptyB⟩
def eu (c : NL) (i : Nat) (f : bd) : NL :=
 if (bY (ld c i).st f).err ≠ 0 then { eb c i (fun k => ez (if (bE k.st (jD k)).err = 0 then { k with st := (bE k.st (jD k)).st } else k)) with ou := c.ou ++ [jD (ld c i)] }
 else eb c i (fun k => ez { k with st := (bY k.st f).st })
def qT (c : NL) (i : Nat) (f : bd) : Bool := decide ((bY (ld c i).st f).err = 0) && !(ld c i).st.done
def dN (c : NL) (f : bd) : NL := if (cb c.rw (aT f.data)).err = 0 then { c with rw := (cb c.rw (aT f.data)).win } else c
def lh (c : NL) (f : bd) : NL := gbC (match cX f.strm c.ks 0 with
 | none => dN c f
 | some i => if qT (dN c f) i f = true then eb (eu (dN c f) i f) i (fun k => { k with ib := k.ib ++ [f.data] }) else eu (dN c f) i f)
def iH (c : NL) : Nat → Nat → NL
 | 0, _ => c
 | n + 1, i => iH (eM c i) n (i + 1)
def f3 (c : NL) (f : bd) : NL :=
 if f.strm = 0 then iH (if (cW c.sw f.num).err = 0 then { c with sw := (cW c.sw f.num).win } else c) c.ks.length 0
 else match cX f.strm c.ks 0 with
  | none => c
  | some i => eM (eu c i f) i
def pP (c : NL) (f : bd) : NL :=
 if f.kind = 1 then gV c f else if f.kind = 2 then lh c f
 else if f.kind = 7 then { c with ou := c.ou ++ [⟨8, 0, f.num, emptyB⟩] }
 else if f.kind = 8 then { c with pg := (c.pg ++ [f.num]).drop (c.pg.length + 1 - 16) }
 else if f.kind = 9 then pO { c with aw := if c.aw = 0 ∨ f.num + 1 < c.aw then f.num + 1 else c.aw } f.num
 else f3 c f
def dF (c : NL) (f : bd) : NL × Int := if c.cl = true then (c, 20) else if kg c f ≠ 0 then (gU c, kg c f) else (pP c f, 0)
def eN (c : NL) : List bd → Bool → cJ → Bool
 | [], _, _ => true
 | f :: r, fst, s => (f.kind == 2 || f.kind == 3 || f.kind == 4) && !(fst && (f.kind != 2 || (decide (aT f.data ≤ s.snd.left) && decide (aT f.data ≤ c.sw.left)))) && eN c r false s
def callOk (c : NL) (k : KR) : Bool :=
 dY k.st && decide (k.st.side = c.sd) && decide (k.st.snd.size = c.sz) && decide (k.st.rcv.size = c.sz) && decide (k.st.snd.held = 0) && decide (bk k.hd = 0) && k.ib.all (fun m => decide (m.size ≤ 16384)) &&
  (if k.st.done = true then decide (k.ob.length = 0) else decide (aZ k.ib ≤ k.st.rcv.held) && decide ((dh k.ob k.st).err = 0) && eN c k.ob true k.st)
def oP (c : NL) : Bool := (decide (c.sd = 1) || decide (c.sd = 2)) && decide (1 ≤ c.sz ∧ c.sz ≤ 1048576) && bq c.sw && bq c.rw && decide (c.sw.size = c.sz) && decide (c.rw.size = c.sz) && decide (c.sw.held = 0) && decide (0 ≤ c.la ∧ c.la ≤ 2147483647 ∧ 0 ≤ c.aw ∧ c.aw ≤ 2147483648) &&
 (if c.sd = 2 then decide (c.nx = 1) && decide (c.aw ≤ c.la + 1) else decide (c.nx = c.la + 1))
def ascB : Option Int → List KR → Bool
 | _, [] => true
 | p, k :: r => (match p with | none => true | some x => decide (x < k.st.id)) && ascB (some k.st.id) r
end Go.Proofs.YthiocbcokfondaaGreatDoor.Y
