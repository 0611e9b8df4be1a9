/- Texts of this claim merged into one: VWin, VShapes, VStrLaw, VConD. -/
import Derived.Test.YthiocbcokfondaaGreatDoorChecked
import Derived.WalkKit
import Derived.WalkSpells
import Derived.WalkLawsBesides
import Derived.Test.YthiocbcokfondaaGreatDoorVBunS
namespace Go.Proofs.YthiocbcokfondaaGreatDoor
open Go
structure dU where
  size : Int
  left : Int
  held : Int
def di (w : dU) : Bool := decide (1 ≤ w.size ∧ w.size ≤ 1048576 ∧ 0 ≤ w.left ∧ 0 ≤ w.held ∧ w.left ≤ 1048576 ∧ w.left + w.held ≤ 1048576)
structure qA where
  win : dU
  err : Int
def cK (w : dU) (n : Int) : qA := if di w = false ∨ n < 0 then ⟨w, 1⟩ else if w.left < n then ⟨w, 22⟩ else ⟨⟨w.size, w.left - n, w.held⟩, 0⟩
def eZ (w : dU) (n : Int) : qA := if di w = false ∨ n < 0 then ⟨w, 1⟩ else if w.left < n then ⟨w, 22⟩ else ⟨⟨w.size, w.left - n, w.held + n⟩, 0⟩
def iO (w : dU) (n : Int) : qA := if di w = false ∨ n < 1 then ⟨w, 1⟩ else if 1048576 - w.left - w.held < n then ⟨w, 6⟩ else ⟨⟨w.size, w.left + n, w.held⟩, 0⟩
def jU (n : Int) : qA := if n < 1 ∨ 1048576 < n then ⟨⟨0, 0, 0⟩, 1⟩ else ⟨⟨n, n, 0⟩, 0⟩
end Go.Proofs.YthiocbcokfondaaGreatDoor
namespace Go.Proofs.YthiocbcokfondaaGreatDoor
open Go.RowKit
def xH (s : Int) : Bool := s == 3 || s == 4
def uE (s : Int) : Bool := s == 2 || s == 4
def lq (s : Int) : Bool := decide (1 ≤ s) && decide (s ≤ 4)
def c1 (s : Int) : Int := if lq s then (if xH s then 0 else 1) else 0
def c2 (s : Int) : Int := if lq s then (if xH s then -1 else 1) else 0
def c3 (s : Int) : Int := if lq s then (if uE s then 0 else 1) else 0
def c4 (s : Int) : Int := if lq s then (if uE s then -1 else 1) else 0
def y6 (n m : Int) : Bool := decide (m < 0) || decide (n < m)
theorem eA {fn : Func} {a b c d : Tmp} (h : fn.results = #[.tmp a, .tmp b, .tmp c, .tmp d]) (tmps : Array Value) (P : Program) (w : World) :
    (results fn tmps).run P w = .ok (.tuple #[tmps.getD a undef, tmps.getD b undef, tmps.getD c undef, tmps.getD d undef]) w := by
  simp [results, h]
theorem lK {s : Int} (h : lq s = true) : s = 1 ∨ s = 2 ∨ s = 3 ∨ s = 4 := by simp [lq] at h; omega
theorem uF (s : Int) (w : World) : Calls Tryz.prog 205 #[.int .i64 s] w fun e w' => e = .returned (.bool (lq s)) ∧ w = w' := by
  go_enter Tryz.func205, Tryz.ntmps205
  go_wp2
  all_goals (go_ret; exact ⟨by simp [lq] <;> omega, rfl⟩)
theorem vE (s : Int) (w : World) : Calls Tryz.prog 148 #[.int .i64 s] w fun e w' => e = .returned (.bool (lq s)) ∧ w = w' := by
  go_enter Tryz.func148, Tryz.ntmps148
  go_wp2
  all_goals (go_ret; exact ⟨by simp [lq] <;> omega, rfl⟩)
theorem counts (s : Int) (w : World) : Calls Tryz.prog 184 #[.int .i64 s] w fun e w' => e = .returned (.tuple #[.int .i64 (c1 s), .int .i64 (c2 s), .int .i64 (c3 s), .int .i64 (c4 s)]) ∧ w = w' := by
  by_cases hs : lq s = true
  · rcases lK hs with rfl | rfl | rfl | rfl
    all_goals
      clear hs
      go_enter Tryz.func184, Tryz.ntmps184
      go_wp2
      refine bodyPost_ret (eA rfl _ _ _) rfl ⟨?_, rfl⟩
      simp [c1, c2, c3, c4, lq, xH, uE]
  · have hn : lq s = false := by simpa using hs
    clear hs
    go_enter Tryz.func184, Tryz.ntmps184
    go_wp2_with (go_at_call 205; refine (uF _ _).mono ?_; rintro e w' ⟨rfl, rfl⟩)
    refine bodyPost_ret (eA rfl _ _ _) rfl ⟨?_, rfl⟩
    simp [c1, c2, c3, c4, hn]
theorem jq (s : Int) (w : World) : Calls Tryz.prog 151 #[.int .i64 s] w fun e w' => e = .returned (.tuple #[.int .i64 (c1 s), .int .i64 (c2 s), .int .i64 (c3 s), .int .i64 (c4 s)]) ∧ w = w' := by
  by_cases hs : lq s = true
  · rcases lK hs with rfl | rfl | rfl | rfl
    all_goals
      clear hs
      go_enter Tryz.func151, Tryz.ntmps151
      go_wp2
      refine bodyPost_ret (eA rfl _ _ _) rfl ⟨?_, rfl⟩
      simp [c1, c2, c3, c4, lq, xH, uE]
  · have hn : lq s = false := by simpa using hs
    clear hs
    go_enter Tryz.func151, Tryz.ntmps151
    go_wp2_with (go_at_call 148; refine (vE _ _).mono ?_; rintro e w' ⟨rfl, rfl⟩)
    refine bodyPost_ret (eA rfl _ _ _) rfl ⟨?_, rfl⟩
    simp [c1, c2, c3, c4, hn]
end Go.Proofs.YthiocbcokfondaaGreatDoor
namespace Go.Proofs.YthiocbcokfondaaGreatDoor
open Go
structure cP where
  id : Int
  side : Int
  shape : Int
  sent : Int
  got : Int
  se : Bool
  ge : Bool
  done : Bool
  code : Int
  text : ByteArray
  snd : dU
  rcv : dU
def jV (n : Int) : Int := if n < 0 then 4611686018427387904 else n
def jW (s : cP) : Int := if s.side = 1 then s.sent else s.got
def kx (s : cP) : Int := if s.side = 1 then s.got else s.sent
def lr (s : cP) : Bool := if s.side = 1 then s.se else s.ge
def qB (s : cP) : Bool := if s.side = 1 then s.ge else s.se
def mz (s : cP) : Bool := decide (1 ≤ s.id ∧ s.id ≤ 2147483647 ∧ (s.side = 1 ∨ s.side = 2)) && lq s.shape
def mA (s : cP) : Bool := di s.snd && di s.rcv && decide (0 ≤ jW s ∧ jW s ≤ jV (c2 s.shape) ∧ 0 ≤ kx s ∧ kx s ≤ jV (c4 s.shape))
def si (s : cP) : Bool := if s.done = true then s.se && s.ge && decide (bi s.code s.text = 0) else !qB s && (!lr s || decide (c1 s.shape ≤ jW s)) && decide (s.code = 0) && decide (s.text.size = 0)
def cn (s : cP) : Bool := mz s && mA s && si s
def sj : cP := ⟨0, 0, 0, 0, 0, false, false, false, 0, ⟨#[]⟩, ⟨0, 0, 0⟩, ⟨0, 0, 0⟩⟩
structure sk where
  st : cP
  err : Int
def gl (id side shape size : Int) : sk := if id < 1 ∨ 2147483647 < id ∨ (side ≠ 1 ∧ side ≠ 2) ∨ lq shape = false ∨ (jU size).err ≠ 0 then ⟨sj, 1⟩
  else ⟨⟨id, side, shape, 0, 0, false, false, false, 0, ⟨#[]⟩, (jU size).win, (jU size).win⟩, 0⟩
def bE (d : ByteArray) : Int := if d.size < 1 then 1 else d.size
def gW (s : cP) (c : Int) (t : ByteArray) : cP := { s with se := true, ge := true, done := true, code := c, text := t }
def fO (s : cP) (f : cO) : cP := if f.kind = 5 then gW s f.num ⟨#[]⟩ else gW s (bl f.data).code (bl f.data).text
def ek (s : cP) : Bool := decide (jW s < c1 s.shape) || decide (kx s < c3 s.shape) || ((s.shape == 1 || s.shape == 3) && !lr s)
def nv (s : cP) (client : Bool) : Int := jV (if client = true then c2 s.shape else c4 s.shape)
def cD (s : cP) (f : cO) : sk :=
  if cn s = false ∨ bC f ≠ 0 ∨ f.strm ≠ s.id then ⟨s, 1⟩
  else if f.kind = 2 then
    if s.done = true ∨ s.se = true then ⟨s, 20⟩ else if nv s (s.side == 1) ≤ s.sent then ⟨s, 11⟩ else if s.snd.size < bE f.data then ⟨s, 3⟩
    else if (cK s.snd (bE f.data)).err ≠ 0 then ⟨s, (cK s.snd (bE f.data)).err⟩ else ⟨{ s with sent := s.sent + 1, snd := (cK s.snd (bE f.data)).win }, 0⟩
  else if f.kind = 3 then
    if s.done = true ∨ s.se = true ∨ s.side ≠ 1 then ⟨s, 20⟩ else if s.sent < c1 s.shape then ⟨s, 11⟩ else ⟨{ s with se := true }, 0⟩
  else if f.kind = 4 then
    if s.done = true ∨ s.side = 1 then ⟨s, 20⟩ else if (bl f.data).code = 0 ∧ ek s = true then ⟨s, 11⟩ else ⟨fO s f, 0⟩
  else if f.kind = 5 then (if s.done = true then ⟨s, 20⟩ else ⟨fO s f, 0⟩)
  else ⟨s, 1⟩
def sl (s : cP) (f : cO) : sk :=
  if cn s = false ∨ bC f ≠ 0 ∨ f.strm ≠ s.id ∨ (f.kind < 2 ∨ 6 < f.kind) then ⟨s, 1⟩
  else if s.done = true then ⟨s, 0⟩
  else if f.kind = 2 then
    if s.ge = true then ⟨s, 20⟩ else if nv s (s.side != 1) ≤ s.got then ⟨s, 11⟩ else if s.rcv.size < bE f.data then ⟨s, 3⟩
    else if (eZ s.rcv (bE f.data)).err ≠ 0 then ⟨s, (eZ s.rcv (bE f.data)).err⟩ else ⟨{ s with got := s.got + 1, rcv := (eZ s.rcv (bE f.data)).win }, 0⟩
  else if f.kind = 3 then
    if s.ge = true ∨ s.side = 1 then ⟨s, 20⟩ else if s.got < c1 s.shape then ⟨s, 11⟩ else ⟨{ s with ge := true }, 0⟩
  else if f.kind = 4 then
    if s.side ≠ 1 then ⟨s, 20⟩ else if (bl f.data).code = 0 ∧ ek s = true then ⟨s, 11⟩ else ⟨fO s f, 0⟩
  else if f.kind = 5 then ⟨fO s f, 0⟩
  else if (iO s.snd f.num).err ≠ 0 then ⟨s, (iO s.snd f.num).err⟩ else ⟨{ s with snd := (iO s.snd f.num).win }, 0⟩
def yI (s : cP) (c : Int) (t : ByteArray) : cP := if s.done = true ∨ cn s = false ∨ bi c t ≠ 0 then s else gW s c t
end Go.Proofs.YthiocbcokfondaaGreatDoor
namespace Go.Proofs.YthiocbcokfondaaGreatDoor.Y
structure KR where
  st : cP
  sv : ByteArray
  mt : ByteArray
  lt : Int
  ms : List (ByteArray × ByteArray)
  ib : List ByteArray
  ob : List cO
def KR.hd (k : KR) : gR := ⟨k.sv, k.mt, k.lt, k.ms⟩
structure NL where
  sd : Int
  nx : Int
  la : Int
  aw : Int
  sz : Int
  sw : dU
  rw : dU
  ks : List KR
  ou : List cO
  pg : List Int
  cl : Bool
def xI : dU := ⟨0, 0, 0⟩
def xJ : NL := ⟨0, 0, 0, 0, 0, xI, xI, [], [], [], false⟩
def xK : KR := ⟨sj, cU, cU, 0, [], [], []⟩
def kz (sd sz : Int) : NL × Int := if (sd ≠ 1 ∧ sd ≠ 2) ∨ (jU sz).err ≠ 0 then (xJ, 1) else (⟨sd, 1, 0, 0, sz, (jU sz).win, (jU sz).win, [], [], [], false⟩, 0)
def dO (id : Int) : List KR → Nat → Option Nat
  | [], _ => none
  | k :: r, i => if k.st.id = id then some i else dO id r (i + 1)
def jX (c : NL) (i : Nat) : KR := (c.ks[i]?).getD xK
def io (c : NL) (i : Nat) (g : KR → KR) : NL := { c with ks := c.ks.set i (g (jX c i)) }
def ce : List ByteArray → Int
  | [] => 0
  | s :: r => bE s + ce r
def cL : List KR → Int
  | [] => 0
  | k :: r => ce k.ib + cL r
def dw (l : List KR) : Nat := l.countP fun k => !k.st.done
def yJ (w : dU) : Int := if di w = false ∨ w.held = 0 ∨ 2 * w.held < w.size then 0 else w.held
def pM (w : dU) (u : Int) : Int := if u = 0 then w.held else yJ ⟨w.size, w.left, w.held - u⟩
def za (w : dU) (n : Int) : dU := ⟨w.size, w.left + n, w.held - n⟩
def yK (c : NL) : NL := if c.cl = true ∨ pM c.rw (cL c.ks) ≤ 0 then c else { c with rw := za c.rw (pM c.rw (cL c.ks)), ou := c.ou ++ [⟨6, 0, pM c.rw (cL c.ks), cU⟩] }
def wm (c : NL) (i : Nat) : Int := pM (jX c i).st.rcv (ce (jX c i).ib)
def zs (c : NL) (i : Nat) (id : Int) : NL := if c.cl = true ∨ wm c i ≤ 0 then c else { io c i (fun k => { k with st := { k.st with rcv := za k.st.rcv (wm c i) } }) with ou := c.ou ++ [⟨6, id, wm c i, cU⟩] }
def pN (k : KR) : KR := if k.st.done = true then { k with ob := [] } else k
def eQ (f : cO) : Int := if f.kind = 2 then bE f.data else 0
structure yL where
  st : cP
  w : dU
  ob : List cO
  ou : List cO
def qC : List cO → cP → dU → List cO → yL
  | [], s, w, o => ⟨s, w, [], o⟩
  | f :: r, s, w, o =>
    if s.snd.left < eQ f ∨ w.left < eQ f then ⟨s, w, f :: r, o⟩
    else if (cD s f).err ≠ 0 then ⟨s, w, f :: r, o⟩
    else if (cK w (eQ f)).err ≠ 0 then ⟨s, w, f :: r, o⟩
    else if (cD s f).st.done = true then ⟨(cD s f).st, (cK w (eQ f)).win, [], o ++ [f]⟩
    else qC r (cD s f).st (cK w (eQ f)).win (o ++ [f])
def sm (c : NL) (i : Nat) : yL := qC (jX c i).ob (jX c i).st c.sw c.ou
def oO (c : NL) (i : Nat) : NL := { io c i (fun k => { k with st := (sm c i).st, ob := (sm c i).ob }) with sw := (sm c i).w, ou := (sm c i).ou }
def ip (s : cP) : cP := { s with snd := ⟨s.snd.size, 1048576, s.snd.held⟩ }
def dH : List cO → cP → sk
  | [], s => ⟨ip s, 0⟩
  | f :: r, s => if (cD (ip s) f).err ≠ 0 then ⟨ip s, (cD (ip s) f).err⟩ else dH r (cD (ip s) f).st
def nw (h : gR) : ByteArray := ⟨(gk h).bytes.toArray⟩
def fZ (c : NL) (h : gR) (sh : Int) : cO := ⟨1, c.nx, sh, nw h⟩
def oP (c : NL) (h : gR) (sh : Int) : Int :=
  if c.sd ≠ 1 ∨ c.cl = true ∨ c.aw ≠ 0 then 20 else if 64 ≤ dw c.ks then 22 else if bd h ≠ 0 then bd h
  else if bC (fZ c h sh) ≠ 0 then bC (fZ c h sh) else (gl c.nx 1 sh c.sz).err
def dk (c : NL) (h : gR) (sh : Int) : NL × Int × Int :=
  if oP c h sh ≠ 0 then (c, 0, oP c h sh)
  else ({ c with ks := c.ks ++ [⟨(gl c.nx 1 sh c.sz).st, h.svc, h.mth, h.late, h.metas, [], []⟩], ou := c.ou ++ [fZ c h sh], la := c.nx, nx := c.nx + 1 }, c.nx, 0)
def ny (c : NL) (f : cO) (chk : Int) : Int := match dO f.strm c.ks 0 with
  | none => 10
  | some i => if chk ≠ 0 then chk else if (dH (jX c i).ob (jX c i).st).err ≠ 0 then (dH (jX c i).ob (jX c i).st).err else (cD (dH (jX c i).ob (jX c i).st).st f).err
def eR (c : NL) (f : cO) (chk : Int) : NL × Int :=
  if ny c f chk ≠ 0 then (c, ny c f chk) else (oO (io c ((dO f.strm c.ks 0).getD 0) (fun k => { k with ob := k.ob ++ [f] })) ((dO f.strm c.ks 0).getD 0), 0)
def vF (c : NL) (msg : ByteArray) : Int := if 16384 < msg.size ∨ c.sz < bE msg then 3 else 0
def lL (c : NL) (id : Int) (msg : ByteArray) : NL × Int := eR c ⟨2, id, 0, msg⟩ (vF c msg)
def zb (c : NL) (id : Int) : NL × Int := eR c ⟨3, id, 0, cU⟩ 0
def zd (c : NL) (id code : Int) (tx : ByteArray) : NL × Int := eR c ⟨4, id, 0, xG code tx⟩ (bi code tx)
def vG (c : NL) (id code : Int) : Int := match dO id c.ks 0 with
  | none => 10
  | some i => (cD (jX c i).st ⟨5, id, code, cU⟩).err
def ze (c : NL) (id code : Int) : NL × Int :=
  if vG c id code ≠ 0 then (c, vG c id code)
  else ({ io c ((dO id c.ks 0).getD 0) (fun k => pN { k with st := (cD k.st ⟨5, id, code, cU⟩).st }) with ou := c.ou ++ [⟨5, id, code, cU⟩] }, 0)
def zf (c : NL) (id : Int) : NL × ByteArray × Bool := match dO id c.ks 0 with
  | none => (c, cU, false)
  | some i => match (jX c i).ib with
    | [] => (c, cU, false)
    | s :: r => (yK (if (jX c i).st.done = true then io c i (fun k => { k with ib := r }) else zs (io c i (fun k => { k with ib := r })) i id), s, true)
def xL (c : NL) : NL × List cO := ({ c with ou := [] }, c.ou)
def zg (c : NL) (n : Int) : NL × Int := if c.cl = true then (c, 20) else if bC ⟨7, 0, n, cU⟩ ≠ 0 then (c, bC ⟨7, 0, n, cU⟩) else ({ c with ou := c.ou ++ [⟨7, 0, n, cU⟩] }, 0)
def zh (c : NL) : NL := if c.sd = 2 ∧ c.cl = false ∧ c.aw = 0 then { c with ou := c.ou ++ [⟨9, 0, c.la, cU⟩], aw := c.la + 1 } else c
def yM (above : Int) (k : KR) : KR := if k.st.done = false ∧ above < k.st.id then pN { k with st := yI k.st 12 cU } else k
def xM (c : NL) (above : Int) : NL := { c with ks := c.ks.map (yM above) }
def xN (c : NL) : NL := xM { c with cl := true, ou := [] } 0
def dI (c : NL) (id : Int) : KR × Bool := match dO id c.ks 0 with
  | none => (xK, false)
  | some i => (jX c i, true)
def zi (c : NL) (id : Int) : NL := match dO id c.ks 0 with
  | none => c
  | some i => if (jX c i).st.done = false then c else yK { c with ks := c.ks.eraseIdx i }
def yN (sd k : Int) : Bool := if sd = 2 then k == 4 || k == 9 else k == 1 || k == 3
def xO (c : NL) (f : cO) : Int :=
  if bC f ≠ 0 ∨ yN c.sd f.kind = true then 1
  else if (f.kind = 1) = (f.strm ≤ c.la) then 11
  else if f.kind = 2 ∧ c.rw.left < bE f.data then 22
  else if f.kind = 6 ∧ f.strm = 0 ∧ (iO c.sw f.num).err ≠ 0 then 6 else 0
def xP (c : NL) (f : cO) : NL :=
  if c.aw ≠ 0 ∨ 64 ≤ dw c.ks ∨ (gl f.strm 2 f.num c.sz).err ≠ 0 ∨ (dv f.data).err ≠ 0 then { c with la := f.strm, ou := c.ou ++ [⟨5, f.strm, 12, cU⟩] }
  else { c with la := f.strm, ks := c.ks ++ [⟨(gl f.strm 2 f.num c.sz).st, (dv f.data).head.svc, (dv f.data).head.mth, (dv f.data).head.late, (dv f.data).head.metas, [], []⟩] }
def wn (k : KR) : cO := ⟨5, k.st.id, 11, cU⟩
def wo (c : NL) (i : Nat) (f : cO) : NL :=
  if (sl (jX c i).st f).err ≠ 0 then { io c i (fun k => pN (if (cD k.st (wn k)).err = 0 then { k with st := (cD k.st (wn k)).st } else k)) with ou := c.ou ++ [wn (jX c i)] }
  else io c i (fun k => pN { k with st := (sl k.st f).st })
def yO (c : NL) (i : Nat) (f : cO) : Bool := decide ((sl (jX c i).st f).err = 0) && !(jX c i).st.done
def uG (c : NL) (f : cO) : NL := if (eZ c.rw (bE f.data)).err = 0 then { c with rw := (eZ c.rw (bE f.data)).win } else c
def xQ (c : NL) (f : cO) : NL := yK (match dO f.strm c.ks 0 with
  | none => uG c f
  | some i => if yO (uG c f) i f = true then io (wo (uG c f) i f) i (fun k => { k with ib := k.ib ++ [f.data] }) else wo (uG c f) i f)
def vH (c : NL) : Nat → Nat → NL
  | 0, _ => c
  | n + 1, i => vH (oO c i) n (i + 1)
def xR (c : NL) (f : cO) : NL :=
  if f.strm = 0 then vH (if (iO c.sw f.num).err = 0 then { c with sw := (iO c.sw f.num).win } else c) c.ks.length 0
  else match dO f.strm c.ks 0 with
    | none => c
    | some i => oO (wo c i f) i
def yP (c : NL) (f : cO) : NL :=
  if f.kind = 1 then xP c f else if f.kind = 2 then xQ c f
  else if f.kind = 7 then { c with ou := c.ou ++ [⟨8, 0, f.num, cU⟩] }
  else if f.kind = 8 then { c with pg := (c.pg ++ [f.num]).drop (c.pg.length + 1 - 16) }
  else if f.kind = 9 then xM { c with aw := if c.aw = 0 ∨ f.num + 1 < c.aw then f.num + 1 else c.aw } f.num
  else xR c f
def zj (c : NL) (f : cO) : NL × Int := if c.cl = true then (c, 20) else if xO c f ≠ 0 then (xN c, xO c f) else (yP c f, 0)
def el (c : NL) : List cO → Bool → cP → Bool
  | [], _, _ => true
  | f :: r, fst, s => (f.kind == 2 || f.kind == 3 || f.kind == 4) && !(fst && (f.kind != 2 || (decide (bE f.data ≤ s.snd.left) && decide (bE f.data ≤ c.sw.left)))) && el c r false s
def dJ (c : NL) (k : KR) : Bool :=
  cn k.st && decide (k.st.side = c.sd) && decide (k.st.snd.size = c.sz) && decide (k.st.rcv.size = c.sz) && decide (k.st.snd.held = 0) && decide (bd k.hd = 0) && k.ib.all (fun m => decide (m.size ≤ 16384)) &&
    (if k.st.done = true then decide (k.ob.length = 0) else decide (ce k.ib ≤ k.st.rcv.held) && decide ((dH k.ob k.st).err = 0) && el c k.ob true k.st)
def jK (c : NL) : Bool := (decide (c.sd = 1) || decide (c.sd = 2)) && decide (1 ≤ c.sz ∧ c.sz ≤ 1048576) && di c.sw && di c.rw && decide (c.sw.size = c.sz) && decide (c.rw.size = c.sz) && decide (c.sw.held = 0) && decide (0 ≤ c.la ∧ c.la ≤ 2147483647 ∧ 0 ≤ c.aw ∧ c.aw ≤ 2147483648) &&
  (if c.sd = 2 then decide (c.nx = 1) && decide (c.aw ≤ c.la + 1) else decide (c.nx = c.la + 1))
def ascB : Option Int → List KR → Bool
  | _, [] => true
  | p, k :: r => (match p with | none => true | some x => decide (x < k.st.id)) && ascB (some k.st.id) r
def yQ (c : NL) : Bool := jK c && decide (c.pg.length ≤ 16) && decide (dw c.ks ≤ 64) && c.ks.all (fun k => dJ c k && decide (k.st.id ≤ c.la)) && ascB none c.ks && c.pg.all (fun n => decide (0 ≤ n ∧ n ≤ 4294967295)) && c.ou.all (fun f => decide (bC f = 0)) && !(c.cl && (decide (0 < c.ou.length) || decide (0 < dw c.ks))) && decide (cL c.ks ≤ c.rw.held)
end Go.Proofs.YthiocbcokfondaaGreatDoor.Y
