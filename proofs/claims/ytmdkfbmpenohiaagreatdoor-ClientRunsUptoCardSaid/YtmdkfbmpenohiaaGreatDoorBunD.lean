/- Texts of this claim merged into one: Shapes, CliD, AppO, Clone, Vac. -/
import Derived.Test.YtmdkfbmpenohiaaGreatDoorChecked
import Derived.WalkKit
import Derived.WalkSpells
import Derived.WalkLawsBesides
import Derived.Test.YtmdkfbmpenohiaaGreatDoorBunT
import Derived.Test.YtmdkfbmpenohiaaGreatDoorBunS
import Derived.Test.YtmdkfbmpenohiaaGreatDoorSyw
import Derived.Laws.OwnMore
namespace Go.Proofs.YtmdkfbmpenohiaaGreatDoor
open Go.RowKit
def yV (s : Int) : Bool := s == 3 || s == 4
def ve (s : Int) : Bool := s == 2 || s == 4
def kC (s : Int) : Bool := decide (1 ≤ s) && decide (s ≤ 4)
def c1 (s : Int) : Int := if kC s then (if yV s then 0 else 1) else 0
def c2 (s : Int) : Int := if kC s then (if yV s then -1 else 1) else 0
def c3 (s : Int) : Int := if kC s then (if ve s then 0 else 1) else 0
def c4 (s : Int) : Int := if kC s then (if ve s then -1 else 1) else 0
def zK (n m : Int) : Bool := decide (m < 0) || decide (n < m)
theorem eU {fn : Func} {a b c d : Tmp} (h : fn.results = #[.tmp a, .tmp b, .tmp c, .tmp d]) (tmps : Array Value) (P : Program) (w : World) :
    (results fn tmps).run P w = .ok (.tuple #[tmps.getD a undef, tmps.getD b undef, tmps.getD c undef, tmps.getD d undef]) w := by
  simp [results, h]
theorem mp {s : Int} (h : kC s = true) : s = 1 ∨ s = 2 ∨ s = 3 ∨ s = 4 := by simp [kC] at h; omega
theorem vf (s : Int) (w : World) : Calls Tryz.prog 96 #[.int .i64 s] w fun e w' => e = .returned (.bool (kC s)) ∧ w = w' := by
  go_enter Tryz.func96, Tryz.ntmps96
  go_wp2
  all_goals (go_ret; exact ⟨by simp [kC] <;> omega, rfl⟩)
theorem yn (s : Int) (w : World) : Calls Tryz.prog 116 #[.int .i64 s] w fun e w' => e = .returned (.bool (kC s)) ∧ w = w' := by
  go_enter Tryz.func116, Tryz.ntmps116
  go_wp2
  all_goals (go_ret; exact ⟨by simp [kC] <;> omega, rfl⟩)
theorem counts (s : Int) (w : World) : Calls Tryz.prog 59 #[.int .i64 s] w fun e w' => e = .returned (.tuple #[.int .i64 (c1 s), .int .i64 (c2 s), .int .i64 (c3 s), .int .i64 (c4 s)]) ∧ w = w' := by
  by_cases hs : kC s = true
  · rcases mp hs with rfl | rfl | rfl | rfl
    all_goals
      clear hs
      go_enter Tryz.func59, Tryz.ntmps59
      go_wp2
      refine bodyPost_ret (eU rfl _ _ _) rfl ⟨?_, rfl⟩
      simp [c1, c2, c3, c4, kC, yV, ve]
  · have hn : kC s = false := by simpa using hs
    clear hs
    go_enter Tryz.func59, Tryz.ntmps59
    go_wp2_with (go_at_call 96; refine (vf _ _).mono ?_; rintro e w' ⟨rfl, rfl⟩)
    refine bodyPost_ret (eU rfl _ _ _) rfl ⟨?_, rfl⟩
    simp [c1, c2, c3, c4, hn]
theorem mq (s : Int) (w : World) : Calls Tryz.prog 98 #[.int .i64 s] w fun e w' => e = .returned (.tuple #[.int .i64 (c1 s), .int .i64 (c2 s), .int .i64 (c3 s), .int .i64 (c4 s)]) ∧ w = w' := by
  by_cases hs : kC s = true
  · rcases mp hs with rfl | rfl | rfl | rfl
    all_goals
      clear hs
      go_enter Tryz.func98, Tryz.ntmps98
      go_wp2
      refine bodyPost_ret (eU rfl _ _ _) rfl ⟨?_, rfl⟩
      simp [c1, c2, c3, c4, kC, yV, ve]
  · have hn : kC s = false := by simpa using hs
    clear hs
    go_enter Tryz.func98, Tryz.ntmps98
    go_wp2_with (go_at_call 116; refine (yn _ _).mono ?_; rintro e w' ⟨rfl, rfl⟩)
    refine bodyPost_ret (eU rfl _ _ _) rfl ⟨?_, rfl⟩
    simp [c1, c2, c3, c4, hn]
end Go.Proofs.YtmdkfbmpenohiaaGreatDoor
namespace Go.Proofs.YtmdkfbmpenohiaaGreatDoor.Y
open Go.RowKit
def rI (a b : ByteArray) : Bool := a.toList == b.toList
structure BV where
  nm : ByteArray
  ld : Int
  bs : Int
  wt : Int
  fl : Int
  ot : Int
structure QR where
  id : Int
  sv : ByteArray
  mt : ByteArray
  late : Int
  ms : List (ByteArray × ByteArray)
  sh : Int
  mg : List ByteArray
  att : Int
  bk : ByteArray
  st : Int
  nx : Int
  an : List ByteArray
  dn : Bool
  cd : Int
  tx : ByteArray
structure CL where
  bs : List BV
  ra : Int
  rb : Int
  rc : Int
  rk : Int
  tk : Int
  mo : Int
  gn : Int
  qs : List QR
  nx : Int
def QR.hd (q : QR) : kB := ⟨q.sv, q.mt, q.late, q.ms⟩
def vg : QR := ⟨0, aZ, aZ, 0, [], 0, [], 0, aZ, 0, 0, [], false, 0, aZ⟩
def jT : CL := ⟨[], 0, 0, 0, 0, 0, 0, 0, [], 0⟩
def bI (n : Int) : Int := cp n 1099511627776
def lV (a b : Int) : Int := bI (bI a + bI b)
def vi (c : UInt8) : Bool := decide ((97 ≤ c.toNat ∧ c.toNat ≤ 122) ∨ (48 ≤ c.toNat ∧ c.toNat ≤ 57))
def eO (s : ByteArray) : Bool := decide (1 ≤ s.size) && decide (s.size ≤ 40) && s.data.toList.all vi
def dK (b : BV) : Bool := gR b.ld && gR b.bs && gR b.fl && decide (1 ≤ b.wt) && decide (b.wt ≤ 100) && decide (0 ≤ b.ot) && decide (b.ot ≤ 2199023255552)
def eM : Option ByteArray → List BV → Int
  | _, [] => 0
  | p, b :: r => if eO b.nm = false then 8 else if (match p with | some x => (Op.bytesLess b.nm.toList x.toList || b.nm.toList == x.toList) | none => false) = true then 11 else if dK b = false then 1 else eM (some b.nm) r
def fu (l : List BV) : Int := if 8 < l.length then 3 else eM none l
def pA (a b : BV) : Bool := decide ((a.bs + a.ld) * b.wt < (b.bs + b.ld) * a.wt) || (decide ((a.bs + a.ld) * b.wt = (b.bs + b.ld) * a.wt) && decide (a.bs < b.bs))
def jm (now : Int) (a b : BV) : Bool := if (decide (a.ot ≤ now)) = (decide (b.ot ≤ now)) then pA a b else decide (a.ot ≤ now)
def cZ (now : Int) : List BV → Nat → Option (Nat × BV) → Option (Nat × BV)
  | [], _, b => b
  | x :: r, i, none => cZ now r (i + 1) (some (i, x))
  | x :: r, i, some (k, b) => cZ now r (i + 1) (if jm now x b = true then some (i, x) else some (k, b))
def cK (now : Int) (l : List BV) : Option Nat := (cZ (bI now) l 0 none).map (·.1)
def cG (b : BV) : BV := { b with bs := cp (b.bs + 1) 1000000 }
def jn (code : Int) : Bool := decide (code = 12) || decide (code = 11) || decide (code = 13) || decide (code = 3)
def db (code now : Int) (b : BV) : BV :=
  let n := cp (b.bs - 1) 1000000
  if jn code = true then
    (let f := cp (b.fl + 1) 1000000
     if 3 ≤ f then { b with bs := n, fl := f, ot := bI now + 1000 * 2 ^ (min (f - 3) 6).toNat } else { b with bs := n, fl := f })
  else if code = 0 then { b with bs := n, fl := 0 } else { b with bs := n }
def bR (f : BV → BV) : List BV → Nat → List BV
  | [], _ => []
  | b :: r, 0 => f b :: r
  | b :: r, k + 1 => b :: bR f r k
def eA (nm : ByteArray) : List BV → Nat → Option Nat
  | [], _ => none
  | b :: r, k => if rI b.nm nm = true then some k else eA nm r (k + 1)
def eV (a b c k : Int) : Int := if a < 1 ∨ a > 10 ∨ b < 1 ∨ b > c ∨ c > 1099511627776 ∨ k < 0 ∨ k ≥ 16384 ∨ k % 2 ≠ 0 then 1 else 0
def lf (a b c k n : Int) : Int := if n < 1 ∨ eV a b c k ≠ 0 then 0 else min (b * 2 ^ (min (n - 1) 64).toNat) c
def rJ (c : CL) (n code : Int) (safe : Bool) : Bool :=
  decide (eV c.ra c.rb c.rc c.rk = 0) && decide (da c.tk c.mo c.gn = 0) && decide (1 ≤ n) && decide (n < c.ra) && decide (1 ≤ code) && decide (code ≤ 13) && decide ((c.rk / 2 ^ code.toNat) % 2 = 1) && (safe || decide (code = 12)) && decide (1000 ≤ c.tk)
def dC (q : QR) (now : Int) : Bool := decide (1 ≤ q.late) && decide (q.late ≤ now)
def dh (id : Int) : List QR → Nat → Option Nat
  | [], _ => none
  | q :: r, k => if q.id = id then some k else dh id r (k + 1)
def bQ : List QR → List Int
  | [] => []
  | q :: r => if q.dn = true then bQ r else q.id :: bQ r
def dQ (l : List BV) (a b c k t m g1 : Int) : CL × Int :=
  if fu l ≠ 0 then (jT, fu l) else if l.length = 0 then (jT, 1) else if eV a b c k ≠ 0 then (jT, eV a b c k) else if da t m g1 ≠ 0 then (jT, da t m g1) else (⟨l, a, b, c, k, t, m, g1, [], 1⟩, 0)
def iL (n least most : Int) : Bool := decide (least ≤ n) && (decide (most < 0) || decide (n ≤ most))
def eB (q : QR) : Bool := !(decide (q.id = 0) && decide (q.att = 0) && decide (q.bk.size = 0) && decide (q.st = 0) && decide (q.nx = 0) && decide (q.an.length = 0) && !q.dn && decide (q.cd = 0) && decide (q.tx.size = 0))
def cL (l : List ByteArray) : Bool := l.any fun m => decide (16384 < m.size)
def dv (c : CL) (q : QR) : Int :=
  if eB q = true ∨ c2 q.sh = 0 ∨ iL q.mg.length (c1 q.sh) (c2 q.sh) = false then 1 else if bH q.hd ≠ 0 then bH q.hd else if cL q.mg = true then 3 else if 64 ≤ (bQ c.qs).length ∨ 2147483647 < c.nx then 22 else 0
def dD (c : CL) (now : Int) (q : QR) : QR :=
  let x := { q with id := c.nx, nx := bI now }
  if dC x (bI now) = true then { x with dn := true, cd := 3, tx := aZ } else x
def ci (c : CL) (now : Int) (q : QR) : CL × Int × Int :=
  if dv c q ≠ 0 then (c, 0, dv c q) else ({ c with qs := c.qs ++ [dD c now q], nx := c.nx + 1 }, c.nx, 0)
def fG (now : Int) (q : QR) : Bool := !(q.dn || !decide (q.bk.size = 0) || decide (now < q.nx) || dC q now)
structure SG where
  qs : List QR
  bs : List BV
  tk : Int
  out : List QR
def f0 (bs : List BV) (k : Nat) (q : QR) : QR := { q with bk := (match bs[k]? with | some b => b.nm | none => aZ), att := q.att + 1 }
def bB (now mo gn : Int) : List QR → List BV → Int → SG
  | [], bs, tk => ⟨[], bs, tk, []⟩
  | q :: r, bs, tk =>
    match (if fG now q = true then cK now bs else none) with
    | none => let s := bB now mo gn r bs tk; ⟨q :: s.qs, s.bs, s.tk, s.out⟩
    | some k =>
      let s := bB now mo gn r (bR cG bs k) (if q.att + 1 = 1 then dt tk mo gn else tk)
      ⟨f0 bs k q :: s.qs, s.bs, s.tk, f0 bs k q :: s.out⟩
def cD (c : CL) (now : Int) : CL × List QR :=
  let s := bB (bI now) c.mo c.gn c.qs c.bs c.tk
  ({ c with qs := s.qs, bs := s.bs, tk := s.tk }, s.out)
def el (c : CL) (id : Int) : Int := match dh id c.qs 0 with
  | none => 10
  | some i => match c.qs[i]? with
    | none => 10
    | some q => if q.bk.size = 0 then 20 else 0
def dZ (c : CL) (id : Int) : Nat := if el c id = 0 then (dh id c.qs 0).getD 0 else 0
def bZ (c : CL) (i : Nat) (f : QR → QR) : CL := { c with qs := c.qs.modify i f }
def i9 (c : CL) (i : Nat) : QR := c.qs.getD i vg
def cC (c : CL) (id st : Int) : CL × Int :=
  if el c id ≠ 0 then (c, el c id) else if (i9 c (dZ c id)).st ≠ 0 then (c, 20) else if st < 1 ∨ 2147483647 < st then (c, 1) else (bZ c (dZ c id) (fun q => { q with st := st }), 0)
def cy (c : CL) (id : Int) (m : ByteArray) : CL × Int :=
  if el c id ≠ 0 then (c, el c id) else if 16384 < m.size then (c, 3) else if 0 ≤ c4 (i9 c (dZ c id)).sh ∧ c4 (i9 c (dZ c id)).sh ≤ (i9 c (dZ c id)).an.length then (c, 11) else (bZ c (dZ c id) (fun q => { q with an := q.an ++ [m] }), 0)
def ct (c : CL) (i : Nat) (code now : Int) : CL :=
  let q := i9 c i
  if q.bk.size = 0 then c else
    bZ { c with bs := match eA q.bk c.bs 0 with | some k => bR (db code now) c.bs k | none => c.bs } i (fun q => { q with bk := aZ, st := 0 })
def en (c : CL) (q : QR) (now : Int) : Int := lV now (lf c.ra c.rb c.rc c.rk q.att)
def fv (c : CL) (q : QR) (now code : Int) (safe : Bool) : Bool :=
  rJ c q.att code safe && decide (q.an.length = 0) && !(decide (1 ≤ q.late) && decide (q.late ≤ en c q now)) && decide (iI c.tk c.mo c.gn = 0)
def de (c : CL) (now id code : Int) (tx : ByteArray) (safe : Bool) : CL × Int :=
  if el c id ≠ 0 then (c, el c id) else if be code tx ≠ 0 then (c, be code tx) else
    let i := dZ c id
    let d := ct c i code (bI now)
    let q := i9 d i
    if fv d q (bI now) code safe = true then (bZ { d with tk := nk d.tk d.mo d.gn } i (fun q => { q with nx := en d q (bI now) }), 0)
    else (bZ d i (fun q => { q with dn := true, cd := code, tx := tx }), 0)
def dE (c : CL) (i : Nat) (code now : Int) : CL := bZ (ct c i code now) i (fun q => { q with dn := true, cd := code, tx := aZ })
def cR (c : CL) (now id : Int) : CL × Int := match dh id c.qs 0 with
  | none => (c, 10)
  | some i => if (i9 c i).dn = true then (c, 20) else (dE c i 1 (bI now), 0)
def eb (now : Int) : Nat → Nat → CL → CL × List Int
  | 0, _, c => (c, [])
  | n + 1, i, c =>
    let q := i9 c i
    if q.dn = false ∧ dC q now = true then (let r := eb now n (i + 1) (dE c i 3 now); (r.1, q.id :: r.2)) else eb now n (i + 1) c
def df (c : CL) (now : Int) : CL × List Int := eb (bI now) c.qs.length 0 c
def gq (c : CL) (id : Int) : QR × Bool := match dh id c.qs 0 with
  | none => (vg, false)
  | some i => (i9 c i, true)
end Go.Proofs.YtmdkfbmpenohiaaGreatDoor.Y
namespace Go.Proofs.YtmdkfbmpenohiaaGreatDoor.Y
open Go.RowKit
section
variable {P : Program} {T : d5} {Q : Exit → Act → World → Prop} {n : Nat} {w0 : World} {S : bM} {M : List Ent} {o : Oper} {l0 rest l : List Oper} {d : Nat}
theorem rK {B0 w : World} {g : Nat} {e : TypeId} {cs : List Value} (len size : Nat) (h : Mem B0 w (.cl g e cs :: M)) (h1 : cs.length = len * size) (h2 : len ≤ maxLen) : Mem B0 w (.own (some ⟨g, 0, none⟩) len e size len cs :: M) := by
  obtain ⟨hb, ho, ha, hr⟩ := h
  refine ⟨hb, ⟨h1, .inr ⟨g, len, ⟨cs⟩, rfl, ho.1, ho.2, Nat.le_refl _, h2, by simpa using h1, ?_⟩⟩, ha, hr⟩
  show cs.take _ = cs
  exact List.take_of_length_le (by omega)
theorem jo {g : Nat} {e : TypeId} {cs : List Value} (len size : Nat) (h1 : cs.length = len * size) (h2 : len ≤ maxLen) (h : SL P l0 Q l n w0 S (.own (some ⟨g, 0, none⟩) len e size len cs :: M)) : SL P l0 Q l n w0 S (.cl g e cs :: M) := ⟨fun a w h3 h4 => h.run a w h3 (rK len size h4 h1 h2)⟩
theorem nr (hT : TOK P T) (i : Nat) {s x : Operand} {t e : TypeId} {z : Value} {td : TD} {a : Option Addr} {cap k : Nat} {xs : List Value} (h1 : o.op = .call ⟨.builtin .append, #[s, x], #[t, t]⟩) (hg : o.guard = none)
    (h2 : ev S s = some ([], .slice a k cap)) (h3 : ev S x = some ([], .slice none 0 0)) (h4 : lk t T = some (.slc e z)) (h5 : lk e T = some td)
    (hi : dY M i = some (.own a cap e td.size k xs))
    (hd : o.dst = some d) (hn : Nat.blt d n = true) (h : SL P l0 Q rest n w0 ((d, [], .slice a k cap) :: S) M) : SL P l0 Q (o :: rest) n w0 S M := by
  have hdn : d < n := Nat.le_of_ble_eq_true hn
  refine dx (L := []) (by rw [hg]; rfl) (fun hL ac w hS hM => ?_) (fun hL => by cases hL)
  have hu := d8 (hT.get h4)
  obtain ⟨inf, hinf, hs, hz⟩ := cc (hT.get h5)
  have hown : w.ownsRow w0.heap.size e td.size (.slice a k cap) k xs := hM.2.get hi
  have hrun : (execOp ac.eval o).run P w = .ok (.value (.slice a k cap)) w := by
    unfold execOp
    simp only [h1, resolve, invoke, builtin, Sem.run_bind, Sem.run_pure, Result.andThen_ok, List.map_toArray, List.map_cons, List.map_nil, aS hS h2 rfl, aS hS h3 rfl]
    rw [run_append_owned_none (P := P) w w0.heap.size t o.type e inf td.size hu hinf (.slice a k cap) k xs hown]
    rfl
  refine bU hrun (h.run _ _ ?_ hM)
  rw [hd]; exact hS.put hdn (by simp [aL])
end
end Go.Proofs.YtmdkfbmpenohiaaGreatDoor.Y
namespace Go.Proofs.YtmdkfbmpenohiaaGreatDoor.Y
open Go.RowKit
theorem ow : ez Tryz.prog 9 16 := by unfold ez; kernel_rfl
set_option maxRecDepth 100000 in
set_option maxHeartbeats 4000000 in
theorem ns (x : Option Addr) (n c : Nat) (cs : List Value) (w : World) (hx : x = none → n = 0) (hin : ∀ ad, x = some ad → ∀ j u, cs[j]? = some u → w.cell? (ad.add j) = some u) (hlen : cs.length = n * 1) (hone : ∀ u ∈ cs, u.oneCell' = true) (hb : n * 16 ≤ 140737488355328) : Calls Tryz.prog 84 #[.slice x n c] w fun e w' => ∃ p : Option Addr × Nat, e = .returned (.slice p.1 n p.2) ∧ w'.ownsRow w.heap.size 9 1 (.slice p.1 n p.2) n cs ∧ Below w.heap.size w w' := by
  refine aD Tryz.func84 rfl Tryz.ntmps84 J J ?_
  cases x with
  | none =>
    obtain rfl := hx rfl
    obtain rfl : cs = [] := List.eq_nil_of_length_eq_zero (by omega)
    repeat' (first | refine ag ?_ | refine aa ?_ | refine ab ?_ | refine ae ?_ | ((refine' ak rfl ?_ J J ?_); rotate_left; first | exact ai af J J J J | exact aq af J J J J J J))
    refine aw J J ?_
    repeat' (first | refine ag ?_ | refine aa ?_ | refine ab ?_ | refine aA ?_ | refine ar ?_ | refine ae ?_ | ((refine' ak rfl ?_ J J ?_); rotate_left; exact ai af J J J J))
    refine aB af (fun _ => 0) J J trivial rfl fun w1 hm => ⟨(none, 0), rfl, World.ownsRow_nil _ _ _ _, hm.below⟩
  | some ad =>
    repeat' (first | refine ag ?_ | refine aa ?_ | refine ab ?_ | refine ae ?_ | ((refine' ak rfl ?_ J J ?_); rotate_left; first | exact ai af J J J J | exact aq af J J J J J J))
    refine am J J ?_
    repeat' (first | refine ag ?_ | refine aa ?_ | refine ab ?_ | refine au ?_ | (refine bq af J J J trivial J J J J J J J J ?_; intro g) | ((refine' ak rfl ?_ J J ?_); rotate_left; exact ai af J J J J))
    refine jo 0 1 rfl (Nat.zero_le _) ?_
    skip
    refine fZ af 0 J J J J J J J J (fun _ _ => rfl) ow (fun w1 hm j u hu => ?_) (.inr hone) hlen (by unfold maxLen; omega) (by omega) J J ?_
    · have h1 := hin ad rfl j u hu
      exact (hm.below.cell (block_lt_of_cell h1)).trans h1
    intro sa sc
    repeat' (first | refine ab ?_ | refine aA ?_ | refine ae ?_ | ((refine' ak rfl ?_ J J ?_); rotate_left; exact ai af J J J J))
    refine aB af (fun _ => 0) J J trivial rfl fun w1 hm => ⟨(sa, sc), by rw [Nat.zero_add], ?_, hm.below⟩
    have h1 := hm.2.get (i := 0) rfl
    rw [Nat.zero_add, List.nil_append] at h1
    exact h1
theorem xe : ez Tryz.prog 119 32 := by unfold ez; kernel_rfl
set_option maxRecDepth 100000 in
set_option maxHeartbeats 4000000 in
theorem lW (x : Option Addr) (n c : Nat) (cs : List Value) (w : World) (hx : x = none → n = 0) (hin : ∀ ad, x = some ad → ∀ j u, cs[j]? = some u → w.cell? (ad.add j) = some u) (hlen : cs.length = n * 2) (hone : ∀ u ∈ cs, u.oneCell' = true) (hb : n * 32 ≤ 140737488355328) : Calls Tryz.prog 83 #[.slice x n c] w fun e w' => ∃ p : Option Addr × Nat, e = .returned (.slice p.1 n p.2) ∧ w'.ownsRow w.heap.size 119 2 (.slice p.1 n p.2) n cs ∧ Below w.heap.size w w' := by
  refine aD Tryz.func83 rfl Tryz.ntmps83 J J ?_
  cases x with
  | none =>
    obtain rfl := hx rfl
    obtain rfl : cs = [] := List.eq_nil_of_length_eq_zero (by omega)
    repeat' (first | refine ag ?_ | refine aa ?_ | refine ab ?_ | refine ae ?_ | ((refine' ak rfl ?_ J J ?_); rotate_left; first | exact ai af J J J J | exact aq af J J J J J J))
    refine aw J J ?_
    repeat' (first | refine ag ?_ | refine aa ?_ | refine ab ?_ | refine aA ?_ | refine ar ?_ | refine ae ?_ | ((refine' ak rfl ?_ J J ?_); rotate_left; exact ai af J J J J))
    refine aB af (fun _ => 0) J J trivial rfl fun w1 hm => ⟨(none, 0), rfl, World.ownsRow_nil _ _ _ _, hm.below⟩
  | some ad =>
    repeat' (first | refine ag ?_ | refine aa ?_ | refine ab ?_ | refine ae ?_ | ((refine' ak rfl ?_ J J ?_); rotate_left; first | exact ai af J J J J | exact aq af J J J J J J))
    refine am J J ?_
    repeat' (first | refine ag ?_ | refine aa ?_ | refine ab ?_ | refine au ?_ | (refine bq af J J J trivial J J J J J J J J ?_; intro g) | ((refine' ak rfl ?_ J J ?_); rotate_left; exact ai af J J J J))
    refine jo 0 2 rfl (Nat.zero_le _) ?_
    skip
    refine fZ af 0 J J J J J J J J (fun _ _ => rfl) xe (fun w1 hm j u hu => ?_) (.inr hone) hlen (by unfold maxLen; omega) (by omega) J J ?_
    · have h1 := hin ad rfl j u hu
      exact (hm.below.cell (block_lt_of_cell h1)).trans h1
    intro sa sc
    repeat' (first | refine ab ?_ | refine aA ?_ | refine ae ?_ | ((refine' ak rfl ?_ J J ?_); rotate_left; exact ai af J J J J))
    refine aB af (fun _ => 0) J J trivial rfl fun w1 hm => ⟨(sa, sc), by rw [Nat.zero_add], ?_, hm.below⟩
    have h1 := hm.2.get (i := 0) rfl
    rw [Nat.zero_add, List.nil_append] at h1
    exact h1
end Go.Proofs.YtmdkfbmpenohiaaGreatDoor.Y
namespace Go.Proofs.YtmdkfbmpenohiaaGreatDoor.Y
open Go.RowKit
theorem dg {P : Program} {w0 : World} {S : bM} {M : List Ent} {L : Cd} {o : Oper} {v v' : Value} (h : VO P w0 S M L o v') (e : v' = v) : VO P w0 S M L o v := e ▸ h
end Go.Proofs.YtmdkfbmpenohiaaGreatDoor.Y
