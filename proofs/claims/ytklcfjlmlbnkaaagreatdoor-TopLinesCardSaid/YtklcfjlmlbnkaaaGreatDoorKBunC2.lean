/- Texts of this claim merged into one: KCn2, KCn4, KCn6. -/
import Derived.Test.YtklcfjlmlbnkaaaGreatDoorKBunT
import Derived.Test.YtklcfjlmlbnkaaaGreatDoorKBunD
import Derived.Test.YtklcfjlmlbnkaaaGreatDoorKBunZ
import Derived.Test.YtklcfjlmlbnkaaaGreatDoorKBunQ
import Derived.Test.YtklcfjlmlbnkaaaGreatDoorKBunY
namespace Go.Proofs.YtklcfjlmlbnkaaaGreatDoor.Y
open Go.RowKit
attribute [local irreducible] Calls
def GU : Option Nat → Int
  | some k => k
  | none => -1
theorem rd : ∀ (l : List ByteArray) (s : ByteArray), aN (l ++ [s]) = aN l + au s
  | [], s => by simp [aN]
  | a :: l, s => by rw [List.cons_append, aN, rd l s, aN]; omega
theorem rg (s : ByteArray) : 1 ≤ au s := by unfold au; split <;> omega
theorem kX : ∀ l : List ByteArray, 0 ≤ aN l
  | [] => Int.le_refl _
  | a :: l => by have := kX l; have := rg a; rw [aN]; omega
theorem zm {l : List ByteArray} {j : Nat} {s : ByteArray} (h : l[j]? = some s) : aN (l.take (j + 1)) = aN (l.take j) + au s := by rw [gD h, rd]
theorem xS : ∀ (l : List ByteArray) (j : Nat), aN (l.take j) ≤ aN l
  | [], j => by simp
  | a :: l, 0 => by have := kX (a :: l); simpa [aN] using this
  | a :: l, j + 1 => by have := xS l j; rw [List.take_succ_cons, aN, aN]; omega
theorem rh : ∀ (l : List KR) (k : KR), aP (l ++ [k]) = aP l + aN k.ib
  | [], s => by simp [aP]
  | a :: l, s => by rw [List.cons_append, aP, rh l s, aP]; omega
theorem nY : ∀ l : List KR, 0 ≤ aP l
  | [] => Int.le_refl _
  | a :: l => by have := nY l; have := kX a.ib; rw [aP]; omega
theorem zo {l : List KR} {j : Nat} {s : KR} (h : l[j]? = some s) : aP (l.take (j + 1)) = aP (l.take j) + aN s.ib := by rw [gD h, rh]
theorem xT : ∀ (l : List KR) (j : Nat), aP (l.take j) ≤ aP l
  | [], j => by simp
  | a :: l, 0 => by have := nY (a :: l); simpa [aP] using this
  | a :: l, j + 1 => by have := xT l j; rw [List.take_succ_cons, aP, aP]; omega
theorem jh {l : List KR} {k : KR} (h : k ∈ l) : aN k.ib ≤ aP l := by
  induction l with
  | nil => cases h
  | cons a l ih =>
    have h0 := nY l
    have h1 := kX a.ib
    rw [aP]
    rcases List.mem_cons.1 h with rfl | h
    · omega
    · have := ih h
      omega
theorem Bv {w0 w : World} {M : List Ent} {g : Nat} {T : TypeId} {v : Value} {r : List Value} (i : Nat) (hM : Mem w0 w M) (h : dI M i = some (.cl g T (v :: r))) : w.cell? ⟨g, 0, none⟩ = some v := by
  have hb : Bk w g T ⟨v :: r⟩ := (hM.2.get (i := i) h).2
  exact hb.at_ 0 rfl
set_option maxRecDepth 100000 in
set_option maxHeartbeats 8000000 in
theorem Bw (u : KV) (id : Int) (g : Nat) (w : World) (hc : w.cell? ⟨g, 0, none⟩ = some (.int .i64 id)) : Calls Tryz.prog 77 #[.agg ⟨KC u⟩, .pointer (some ⟨g, 0, none⟩)] w fun e w' => e = .returned (.bool (u.k.st.id == id)) ∧ Below w.heap.size w w' := by
  refine aA Tryz.func77 rfl Tryz.ntmps77 J J ?_
  repeat' (first | refine vx rfl (dG af J J J J J (fun _ => hc)) ?_ | (refine bx ?_; intro g) | refine nx ?_)
  (refine rt ?_; refine fun w hm => ⟨?_, hm.below⟩)
  rfl
set_option maxRecDepth 100000 in
set_option maxHeartbeats 8000000 in
theorem Bx {A : Nat → Prop} (v : NV) (id : Int) (g : Nat) (w : World) (hc : w.cell? ⟨g, 0, none⟩ = some (.int .i64 id)) (hN : NOk A w v) (hzk : v.kv.length ≤ 606626243774) : Calls Tryz.prog 76 #[.slice v.x v.kv.length v.xc, .func (.func 77) #[] #[.pointer (some ⟨g, 0, none⟩)]] w fun e w' => e = .returned (.int .i64 (GU (dj id v.c.ks 0))) ∧ Below w.heap.size w w' := by
  refine aA Tryz.func76 rfl Tryz.ntmps76 J J ?_
  have hl := hN.lenk
  repeat' refine nx ?_
  refine bP (σ := Nat) (fun p => p ≤ v.kv.length ∧ dj id v.c.ks 0 = dj id (v.c.ks.drop p) p) (fun p => [(8, [], .int .i64 ((p : Nat) : Int)), (7, [], .int .i64 ((v.kv.length : Nat) : Int)), (0, [], .slice v.x v.kv.length v.xc), (1, [], .func (.func 77) #[] #[.pointer (some ⟨g, 0, none⟩)])]) (fun _ => []) (fun p => v.kv.length - p) 0 [] ⟨Nat.zero_le _, rfl⟩ ⟨J, J, J, J, trivial⟩ rfl ?_
  rintro j ⟨hj0, hr⟩
  by_cases hj : j < v.kv.length
  · skip
    obtain ⟨u, hu0⟩ : ∃ u, v.kv[j]? = some u := ⟨v.kv[j], List.getElem?_eq_getElem hj⟩
    obtain ⟨bb, off, hx, _, _, hrows⟩ := hN.ks (by omega)
    have hrow : w.rangeAt bb (off + j * 22) (KC u) := hrows j u hu0
    have hq : v.c.ks[j]? = some u.k := by rw [hN.eq, List.getElem?_map, hu0]; rfl
    rw [kT hq, dj] at hr
    rw [hx]
    repeat' refine nx ?_
    refine aq rfl (by simp; omega) ?_
    repeat' (first | refine vx rfl (ia (m := 22) j hj) ?_ | refine vx rfl (Fd (cs := KC u) hrow) ?_ | refine cl (fun w hm => Bw u id g w ((hm.below.cell (block_lt_of_cell hc)).trans hc)) ?_ | refine nx ?_)
    by_cases hh : u.k.st.id = id
    · rw [if_pos hh] at hr
      refine aq rfl (by simpa using hh) ?_
      repeat' refine nx ?_
      (refine rt ?_; refine fun w hm => ⟨?_, hm.below⟩)
      rw [hr]; rfl
    · rw [if_neg hh] at hr
      refine ai rfl (by simpa using hh) ?_
      repeat' (first | refine vx rfl (bd J J J J J (by omega)) ?_ | refine cV ?_)
      refine aU (j + 1) [] ⟨hj, hr⟩ (show v.kv.length - (j + 1) < v.kv.length - j by omega) ⟨J, J, J, J, trivial⟩ rfl
  · rw [List.drop_eq_nil_of_le (by omega)] at hr
    repeat' refine nx ?_
    refine ai rfl (by simp; omega) ?_
    repeat' refine nx ?_
    (refine rt ?_; refine fun w hm => ⟨?_, hm.below⟩)
    rw [hr]; rfl
set_option maxRecDepth 100000 in
set_option maxHeartbeats 8000000 in
theorem DX {A : Nat → Prop} (v : NV) (id : Int) (w : World) (hN : NOk A w v) (hzk : v.kv.length ≤ 606626243774) : Calls Tryz.prog 52 #[.agg ⟨NC v⟩, .int .i64 id] w fun e w' => e = .returned (.int .i64 (GU (dj id v.c.ks 0))) ∧ Below w.heap.size w w' := by
  refine aA Tryz.func52 rfl Tryz.ntmps52 J J ?_
  repeat' (first | refine vx rfl (AC J J trivial rfl ⟨J, trivial⟩) ?_ | (refine bx ?_; intro g1) | refine cl (fun w hm => Bx v id _ w (Bv 0 hm rfl) (hN.below hm.below) hzk) ?_ | refine nx ?_)
  (refine rt ?_; refine fun w hm => ⟨?_, hm.below⟩)
  rfl
set_option maxRecDepth 100000 in
set_option maxHeartbeats 8000000 in
theorem uD {A : Nat → Prop} (v : KV) (w : World) (hI : Rws A w 1 sC v.i v.k.ib) (hub : aN v.k.ib ≤ 4611686018427387904) (hzi : v.k.ib.length ≤ 8796093022208) : Calls Tryz.prog 61 #[.agg ⟨KC v⟩] w fun e w' => e = .returned (.int .i64 (aN v.k.ib)) ∧ Below w.heap.size w w' := by
  refine aA Tryz.func61 rfl Tryz.ntmps61 J J ?_
  repeat' (first | (refine bx ?_; intro g1) | refine nx ?_)
  refine bP (σ := Nat) (fun p => p ≤ v.k.ib.length) (fun p => [(9, [], .int .i64 ((p : Nat) : Int)), (8, [], .int .i64 ((v.k.ib.length : Nat) : Int)), (7, [], .slice v.i v.k.ib.length v.ic), (3, [], .int .i64 (aN (v.k.ib.take p)))]) (fun _ => [.cl g1 87 [.int .i64 v.k.st.id, .int .i64 v.k.st.side, .int .i64 v.k.st.shape, .int .i64 v.k.st.sent, .int .i64 v.k.st.got, .bool v.k.st.se, .bool v.k.st.ge, .bool v.k.st.done, .int .i64 v.k.st.code, .string v.k.st.text, .int .i64 v.k.st.snd.size, .int .i64 v.k.st.snd.left, .int .i64 v.k.st.snd.held, .int .i64 v.k.st.rcv.size, .int .i64 v.k.st.rcv.left, .int .i64 v.k.st.rcv.held, .string v.k.sv, .string v.k.mt, .int .i64 v.k.lt, .slice v.m v.k.ms.length v.mc, .slice v.i v.k.ib.length v.ic, .slice v.o v.k.ob.length v.oc]]) (fun p => v.k.ib.length - p) 0 [true] (Nat.zero_le _) ⟨J, J, J, J, trivial⟩ rfl ?_
  intro j hj0
  by_cases hj : j < v.k.ib.length
  · skip
    obtain ⟨s, hs⟩ : ∃ s, v.k.ib[j]? = some s := ⟨v.k.ib[j], List.getElem?_eq_getElem hj⟩
    obtain ⟨bb, off, hx, _, _, hrows⟩ := hI (by omega)
    have hrow : w.rangeAt bb (off + j * 1) (sC s) := hrows j s hs
    have hun := zm hs
    have hue := xS v.k.ib (j + 1)
    have hu1 := kX (v.k.ib.take j)
    have hco := rg s
    rw [hx]
    repeat' refine nx ?_
    refine aq rfl (by simp; omega) ?_
    repeat' (first | refine vx rfl (ia (m := 1) j hj) ?_ | refine vx rfl (dG af (v := .string s) J J J J J (fun _ => hrow 0 _ rfl)) ?_ | refine vx rfl (bd J J J J J (by omega)) ?_ | refine cl (fun w hm => ie s w) ?_ | refine nx ?_)
    rw [← hun]
    refine aU (j + 1) [true] hj (show v.k.ib.length - (j + 1) < v.k.ib.length - j by omega) ⟨J, J, J, J, trivial⟩ rfl
  · have hjl : j = v.k.ib.length := by omega
    subst hjl
    repeat' refine nx ?_
    refine ai rfl (by simp) ?_
    repeat' refine nx ?_
    (refine rt ?_; refine fun w hm => ⟨?_, hm.below⟩)
    rw [List.take_length]
set_option maxRecDepth 100000 in
set_option maxHeartbeats 8000000 in
theorem Bz {A : Nat → Prop} (v : NV) (w : World) (hN : NOk A w v) (hzk : v.kv.length ≤ 606626243774) (htb : aP v.c.ks ≤ 4611686018427387904) (hzi : ∀ u ∈ v.kv, u.k.ib.length ≤ 8796093022208) : Calls Tryz.prog 62 #[.agg ⟨NC v⟩] w fun e w' => e = .returned (.int .i64 (aP v.c.ks)) ∧ Below w.heap.size w w' := by
  refine aA Tryz.func62 rfl Tryz.ntmps62 J J ?_
  have hl := hN.lenk
  repeat' (first | (refine bx ?_; intro g1) | refine nx ?_)
  refine bP (σ := Nat) (fun p => p ≤ v.kv.length) (fun p => [(9, [], .int .i64 ((p : Nat) : Int)), (8, [], .int .i64 ((v.kv.length : Nat) : Int)), (7, [], .slice v.x v.kv.length v.xc), (3, [], .int .i64 (aP (v.c.ks.take p)))]) (fun _ => [.cl g1 34 [.int .i64 v.c.sd, .int .i64 v.c.nx, .int .i64 v.c.la, .int .i64 v.c.aw, .int .i64 v.c.sz, .int .i64 v.c.sw.size, .int .i64 v.c.sw.left, .int .i64 v.c.sw.held, .int .i64 v.c.rw.size, .int .i64 v.c.rw.left, .int .i64 v.c.rw.held, .slice v.x v.kv.length v.xc, .slice v.o v.c.ou.length v.oc, .slice v.p v.c.pg.length v.pc, .bool v.c.cl]]) (fun p => v.kv.length - p) 0 [true] (Nat.zero_le _) ⟨J, J, J, J, trivial⟩ rfl ?_
  intro j hj0
  by_cases hj : j < v.kv.length
  · skip
    obtain ⟨u, hu0⟩ : ∃ u, v.kv[j]? = some u := ⟨v.kv[j], List.getElem?_eq_getElem hj⟩
    obtain ⟨bb, off, hx, _, _, hrows⟩ := hN.ks (by omega)
    have hrow : w.rangeAt bb (off + j * 22) (KC u) := hrows j u hu0
    have hq : v.c.ks[j]? = some u.k := by rw [hN.eq, List.getElem?_map, hu0]; rfl
    have hu := List.mem_of_getElem? hu0
    have hun := zo hq
    have hue := xT v.c.ks (j + 1)
    have hu1 := nY (v.c.ks.take j)
    have hu2 := kX u.k.ib
    try unfold NC
    rw [hx]
    repeat' refine nx ?_
    refine aq rfl (by simp; omega) ?_
    repeat' (first | refine vx rfl (ia (m := 22) j hj) ?_ | refine vx rfl (Fd (cs := KC u) hrow) ?_ | refine vx rfl (bd J J J J J (by omega)) ?_ | (refine al ?_; intro g5) | refine cl (fun w hm => uD u w ((hN.ok u hu).2.1.below hm.below) (by omega) (hzi u hu)) ?_ | refine nx ?_)
    rw [← hun]
    refine aU (j + 1) [false, true] hj (show v.kv.length - (j + 1) < v.kv.length - j by omega) ⟨J, J, J, J, trivial⟩ rfl
  · have hjl : j = v.kv.length := by omega
    subst hjl
    repeat' refine nx ?_
    refine ai rfl (by simp) ?_
    repeat' refine nx ?_
    (refine rt ?_; refine fun w hm => ⟨?_, hm.below⟩)
    rw [← hl, List.take_length]
end Go.Proofs.YtklcfjlmlbnkaaaGreatDoor.Y
namespace Go.Proofs.YtklcfjlmlbnkaaaGreatDoor.Y
open Go.RowKit
structure Ja where
  win : WinV
  n : Int
def FH (w : WinV) : Ja := if aS w = false ∨ w.held = 0 ∨ 2 * w.held < w.size then ⟨w, 0⟩ else ⟨⟨w.size, w.left + w.held, 0⟩, w.held⟩
theorem GV (w : WinV) : (FH w).n = zf w := by unfold FH zf; split <;> rfl
theorem FI (d : ByteArray) : (aV d).text.size ≤ d.size := by
  unfold aV
  split
  · unfold gj
    repeat' split
    all_goals first
      | exact Nat.zero_le _
      | (show (d.extract _ d.size).size ≤ d.size; rw [ByteArray.size_extract]; omega)
  · exact Nat.zero_le _
theorem zp {s : StV} {f : FrV} (h2 : f.data.size < 4294967281) : (eg s f).text.size ≤ 4611686018427387900 := by
  unfold eg dN
  split
  · exact Nat.zero_le _
  · have := FI f.data
    show (aV f.data).text.size ≤ _
    omega
theorem pq {s : StV} {f : FrV} (h1 : s.text.size ≤ 4611686018427387900) (h2 : f.data.size < 4294967281) : (bh s f).st.text.size ≤ 4611686018427387900 := by
  unfold bh
  repeat' split
  all_goals first
    | exact h1
    | exact zp h2
theorem xU (s : StV) (f : FrV) (r : C9) (h : bh s f = r) (w : World) (htx : s.text.size ≤ 4611686018427387900) (hfd : f.data.size < 4294967281) (hl : MLen w) : Calls Tryz.prog 54 #[.agg ⟨tC s⟩, .agg #[.int .i64 f.kind, .int .i64 f.strm, .int .i64 f.num, .string f.data]] w fun e w' => e = .returned (.tuple #[.agg ⟨tC r.st⟩, .int .i64 r.err]) ∧ Below w.heap.size w w' := by
  subst h
  exact Bt s.id s.side s.shape s.sent s.got s.se s.ge s.done s.code s.text s.snd.size s.snd.left s.snd.held s.rcv.size s.rcv.left s.rcv.held f.kind f.strm f.num f.data w htx hfd hl
attribute [local irreducible] Calls
set_option maxRecDepth 100000 in
set_option maxHeartbeats 4000000 in
theorem BA (a b c : Int) (w : World) : Calls Tryz.prog 117 #[.agg #[.int .i64 a, .int .i64 b, .int .i64 c]] w fun e w' => e = .returned (.tuple #[.agg #[.int .i64 (FH ⟨a, b, c⟩).win.size, .int .i64 (FH ⟨a, b, c⟩).win.left, .int .i64 (FH ⟨a, b, c⟩).win.held], .int .i64 (FH ⟨a, b, c⟩).n]) ∧ Below w.heap.size w w' := by
  refine aA Tryz.func117 rfl Tryz.ntmps117 J J ?_
  repeat' (first | refine cl (fun w hm => gZ ⟨_, _, _⟩ w) ?_ | (refine bx ?_; intro g) | (refine al ?_; intro g) | refine cz rfl (fun h => ?_) (fun h => ?_) | refine nx ?_)
  all_goals
    (refine rt ?_; refine fun w hm => ⟨?_, hm.below⟩)
  all_goals
    clear hm
    have w1 := fun h => IntWalk.i64_in (2 * c) h
    have w2 := fun h => IntWalk.i64_in (b + c) h
    unfold FH aS at *
    grind
set_option maxRecDepth 100000 in
set_option maxHeartbeats 8000000 in
theorem zq (x : WinV) (u : Int) (w : World) (hu : 0 ≤ u ∧ u ≤ 4611686018427387904) (hh : 0 ≤ x.held ∧ x.held ≤ 4611686018427387904) : Calls Tryz.prog 93 #[.agg #[.int .i64 x.size, .int .i64 x.left, .int .i64 x.held], .int .i64 u] w fun e w' => e = .returned (.int .i64 (db x u)) ∧ Below w.heap.size w w' := by
  refine aA Tryz.func93 rfl Tryz.ntmps93 J J ?_
  repeat' (first | (refine bx ?_; intro g2) | refine nx ?_)
  by_cases h0 : u = 0
  · refine aq rfl (by simpa using h0) ?_
    repeat' refine nx ?_
    (refine rt ?_; refine fun w hm => ⟨?_, hm.below⟩)
    rw [db, if_pos h0]
  · refine ai rfl (by simpa using h0) ?_
    repeat' (first | refine vx rfl (gO J J J J J (by omega)) ?_ | (refine al ?_; intro g5) | refine cl (fun w hm => BA x.size x.left (x.held - u) w) ?_ | refine nx ?_)
    (refine rt ?_; refine fun w hm => ⟨?_, hm.below⟩)
    rw [db, if_neg h0, ← GV]
set_option maxRecDepth 100000 in
set_option maxHeartbeats 16000000 in
theorem BB {A : Nat → Prop} (v : KV) (w : World) (hO : Rws A w 4 fC v.o v.k.ob) (hzo : v.k.ob.length ≤ 3518437208883) (htx : v.k.st.text.size ≤ 4611686018427387900) (hfd : ∀ f ∈ v.k.ob, f.data.size < 4294967281) (hg : MLen w) : Calls Tryz.prog 53 #[.agg ⟨KC v⟩] w fun e w' => e = .returned (.tuple #[.agg ⟨tC (dF v.k.ob v.k.st).st⟩, .int .i64 (dF v.k.ob v.k.st).err]) ∧ Below w.heap.size w w' := by
  refine aA Tryz.func53 rfl Tryz.ntmps53 J J ?_
  refine bc ?_
  refine aH ?_
  (refine bx ?_; intro g1)
  (refine al ?_; intro g2)
  repeat' (first | (refine al ?_; intro g4) | refine nx ?_)
  refine bP (σ := Nat × StV) (fun p => p.1 ≤ v.k.ob.length ∧ p.2.text.size ≤ 4611686018427387900 ∧ dF v.k.ob v.k.st = dF (v.k.ob.drop p.1) p.2) (fun p => [(14, [], .int .i64 ((p.1 : Nat) : Int)), (13, [], .int .i64 ((v.k.ob.length : Nat) : Int)), (12, [], .slice v.o v.k.ob.length v.oc), (4, [], .pointer (some ⟨g4, 0, none⟩)), (2, [], .pointer (some ⟨g2, 0, none⟩))]) (fun p => [.cl g4 79 (tC p.2), .cl g2 79 [.int .i64 0, .int .i64 0, .int .i64 0, .int .i64 0, .int .i64 0, .bool false, .bool false, .bool false, .int .i64 0, .string ⟨#[]⟩, .int .i64 0, .int .i64 0, .int .i64 0, .int .i64 0, .int .i64 0, .int .i64 0]]) (fun p => v.k.ob.length - p.1) (0, v.k.st) [true, true, false] ⟨Nat.zero_le _, htx, rfl⟩ ⟨J, J, J, J, J, trivial⟩ rfl ?_
  rintro ⟨j, s⟩ ⟨hj0, hs0, hr⟩
  dsimp only at hj0 hs0 hr ⊢
  by_cases hj : j < v.k.ob.length
  · obtain ⟨f, hf⟩ : ∃ f, v.k.ob[j]? = some f := ⟨v.k.ob[j], List.getElem?_eq_getElem hj⟩
    obtain ⟨bb, off, hx, _, _, hrows⟩ := hO (by omega)
    have hrow : w.rangeAt bb (off + j * 4) (fC f) := hrows j f hf
    have hfd0 := hfd f (List.mem_of_getElem? hf)
    obtain ⟨r, hr0⟩ : ∃ r, bh (ei s) f = r := ⟨_, rfl⟩
    have hrt : r.st.text.size ≤ 4611686018427387900 := by rw [← hr0]; exact pq hs0 hfd0
    rw [kT hf, dF, hr0] at hr
    rw [hx]
    repeat' refine nx ?_
    refine aq rfl (by simp; omega) ?_
    repeat' (first | refine vx rfl (ia (m := 4) j hj) ?_ | refine vx rfl (Fd (cs := fC f) hrow) ?_ | (refine al ?_; intro g6) | refine cl (fun w hm => xU (ei s) f r hr0 w hs0 hfd0 (hg.below hm.below)) ?_ | refine nx ?_)
    by_cases he : r.err = 0
    · rw [if_neg (by simpa using he)] at hr
      refine ai rfl (by simpa using he) ?_
      repeat' (first | refine vx rfl (bd J J J J J (by omega)) ?_ | refine cV ?_)
      refine aU (j + 1, r.st) [false, false, true, true] ⟨hj, hrt, hr⟩ (show v.k.ob.length - (j + 1) < v.k.ob.length - j by omega) ⟨J, J, J, J, J, trivial⟩ rfl
    · rw [if_pos (by simpa using he)] at hr
      refine aq rfl (by simpa using he) ?_
      repeat' refine nx ?_
      (refine rt ?_; refine fun w1 hm => ⟨?_, hm.below⟩)
      rw [hr]
      rfl
  · rw [List.drop_eq_nil_of_le (by omega), dF] at hr
    repeat' refine nx ?_
    refine ai rfl (by simp; omega) ?_
    repeat' refine nx ?_
    (refine rt ?_; refine fun w1 hm => ⟨?_, hm.below⟩)
    rw [hr]
    rfl
end Go.Proofs.YtklcfjlmlbnkaaaGreatDoor.Y
namespace Go.Proofs.YtklcfjlmlbnkaaaGreatDoor.Y
open Go.RowKit
def fX (u : KV) : KV := if u.k.st.done = true then { u with k := { u.k with ob := [] }, o := none, oc := 0 } else u
theorem sB (u : KV) : (fX u).k = eV u.k := by unfold fX eV; split <;> rfl
structure lz where
  st : StV
  w : WinV
  ou : List FrV
  o : Option Addr
  oc : Nat
  a : Option Addr
  ac : Nat
  r : List FrV
def uS (u : KV) (p : lz) : KV := { u with k := { u.k with st := p.st, ob := p.r }, o := p.a, oc := p.ac }
structure Gv (c : NL) (u : KV) (p : lz) : Prop where
  eq : jO u.k.ob u.k.st c.sw c.ou = jO p.r p.st p.w p.ou
  tx : p.st.text.size ≤ 4611686018427387900
  fr : ∀ f ∈ p.r, f.data.size < 4294967281
  ln : p.ou.length + p.r.length ≤ c.ou.length + u.k.ob.length
  cap : p.r.length ≤ p.ac
  at_ : 0 < p.r.length → ∃ b off j, u.o = some ⟨b, off, none⟩ ∧ p.a = some ⟨b, off + j * 4, none⟩ ∧ p.r = u.k.ob.drop j
attribute [local irreducible] Calls
set_option maxRecDepth 100000 in
set_option maxHeartbeats 8000000 in
theorem kY {w0 : World} {M : List Ent} (gx xc n k : Nat) (kv : List KV) (u : KV) (hu : kv[k]? = some u) (w : World) (hM : Mem w0 w (.own (some ⟨gx, 0, none⟩) xc 87 22 n ((kv).flatMap KC) :: M)) : Calls Tryz.prog 85 #[.pointer (some ⟨gx, 0 + k * 22, none⟩)] w fun e w' => ∃ r : Value, True ∧ e = .returned r ∧ Mem w0 w' (.own (some ⟨gx, 0, none⟩) xc 87 22 n ((kv.set k (fX u)).flatMap KC) :: M) := by
  refine bv hM Tryz.func85 rfl Tryz.ntmps85 J J ?_
  repeat' (first | refine vx rfl (bM af 0 (v := .bool u.k.st.done) J J J J J J (fun _ => by rw [Nat.zero_add]; exact aJ aK hu (k := 7) rfl)) ?_ | refine nx ?_)
  cases hd : u.k.st.done with
  | true =>
    refine aq J J ?_
    repeat' refine cV ?_
    refine cF af 0 J J J J J J J J J (show jv _ (0 + k * 22 + 21) _ = _ from by rw [Nat.zero_add]; exact cy aK (kv) k 21 (u) ({ u with k := { u.k with ob := [] }, o := none, oc := 0 }) _ hu rfl) J J ?_
    repeat' refine cV ?_
    (refine bJ af (fun _ => 0) J J trivial rfl fun w1 hm => ?_)
    refine ⟨_, trivial, rfl, ?_⟩
    rw [fX, if_pos hd]
    exact hm
  | false =>
    refine ai J J ?_
    repeat' refine cV ?_
    (refine bJ af (fun _ => 0) J J trivial rfl fun w1 hm => ?_)
    refine ⟨_, trivial, rfl, ?_⟩
    rw [fX, if_neg (by rw [hd]; simp), show kv.set k u = kv by obtain ⟨h1, h2⟩ := List.getElem?_eq_some_iff.1 hu; rw [← h2]; exact List.set_getElem_self h1]
    exact hm
theorem GW (x : WinV) (n : Int) (t : ui) (h : cS x n = t) (w : World) : Calls Tryz.prog 82 #[.agg #[.int .i64 x.size, .int .i64 x.left, .int .i64 x.held], .int .i64 n] w fun e w' => e = .returned (.tuple #[.agg #[.int .i64 t.win.size, .int .i64 t.win.left, .int .i64 t.win.held], .int .i64 t.err]) ∧ Below w.heap.size w w' := by
  subst h
  exact pf x n w
theorem BC {u : KV} {p : lz} {i : Nat} {x : Value} (h : (tC p.st)[i]? = some x) : (KC (uS u p))[i]? = some x := by
  have hi : i < (tC p.st).length := (List.getElem?_eq_some_iff.1 h).1
  have e : KC (uS u p) = tC p.st ++ (KC (uS u p)).drop 16 := rfl
  rw [e, List.getElem?_append_left hi]
  exact h
set_option maxRecDepth 100000 in
set_option maxHeartbeats 16000000 in
theorem pt {w0 : World} {M : List Ent} (gc gx xc : Nat) (o : Option Addr) (oc : Nat) (pa : Option Addr) (pc : Nat) (c : NL) (kv : List KV) (n : Nat) (k : Nat) (u : KV) (hu : kv[k]? = some u) (F : Nat → Prop) (w : World) (htx : u.k.st.text.size ≤ 4611686018427387900) (hfr : ∀ f ∈ u.k.ob, f.data.size < 4294967281) (hcap : u.k.ob.length ≤ u.oc) (hln : c.ou.length + u.k.ob.length ≤ 3518437208882) (hO : Rws F w 4 fC u.o u.k.ob) (hg : MLen w0) (hM : Mem w0 w (.own o oc 74 4 c.ou.length (c.ou.flatMap fC) :: .own (some ⟨gx, 0, none⟩) xc 87 22 n (kv.flatMap KC) :: .cl gc 34 [.int .i64 c.sd, .int .i64 c.nx, .int .i64 c.la, .int .i64 c.aw, .int .i64 c.sz, .int .i64 c.sw.size, .int .i64 c.sw.left, .int .i64 c.sw.held, .int .i64 c.rw.size, .int .i64 c.rw.left, .int .i64 c.rw.held, .slice (some ⟨gx, 0, none⟩) n xc, .slice o c.ou.length oc, .slice pa c.pg.length pc, .bool c.cl] :: .rep F (fun w => Rws F w 4 fC u.o u.k.ob) :: M)) : Calls Tryz.prog 55 #[.pointer (some ⟨gc, 0, none⟩), .pointer (some ⟨gx, 0 + k * 22, none⟩)] w fun e w' => ∃ s : Value × lz, (Gv c u s.2 ∧ jO u.k.ob u.k.st c.sw c.ou = ⟨s.2.st, s.2.w, s.2.r, s.2.ou⟩) ∧ e = .returned s.1 ∧ Mem w0 w' (.own s.2.o s.2.oc 74 4 s.2.ou.length (s.2.ou.flatMap fC) :: .own (some ⟨gx, 0, none⟩) xc 87 22 n ((kv.set k (uS u s.2)).flatMap KC) :: .cl gc 34 [.int .i64 c.sd, .int .i64 c.nx, .int .i64 c.la, .int .i64 c.aw, .int .i64 c.sz, .int .i64 s.2.w.size, .int .i64 s.2.w.left, .int .i64 s.2.w.held, .int .i64 c.rw.size, .int .i64 c.rw.left, .int .i64 c.rw.held, .slice (some ⟨gx, 0, none⟩) n xc, .slice s.2.o s.2.ou.length s.2.oc, .slice pa c.pg.length pc, .bool c.cl] :: .rep F (fun w => Rws F w 4 fC u.o u.k.ob) :: M) := by
  have e0 : kv.set k (uS u ⟨u.k.st, c.sw, c.ou, o, oc, u.o, u.oc, u.k.ob⟩) = kv := by obtain ⟨h1, h2⟩ := List.getElem?_eq_some_iff.1 hu; show kv.set k u = kv; rw [← h2]; exact List.set_getElem_self h1
  rw [show kv.flatMap KC = (kv.set k (uS u ⟨u.k.st, c.sw, c.ou, o, oc, u.o, u.oc, u.k.ob⟩)).flatMap KC by rw [e0]] at hM
  refine bv hM Tryz.func55 rfl Tryz.ntmps55 J J ?_
  clear e0
  repeat' refine cV ?_
  refine bP (σ := lz) (Gv c u) (fun p => [(0, [], .pointer (some ⟨gc, 0, none⟩)), (1, [], .pointer (some ⟨gx, 0 + k * 22, none⟩))]) (fun p => .own p.o p.oc 74 4 p.ou.length (p.ou.flatMap fC) :: .own (some ⟨gx, 0, none⟩) xc 87 22 n ((kv.set k (uS u p)).flatMap KC) :: .cl gc 34 [.int .i64 c.sd, .int .i64 c.nx, .int .i64 c.la, .int .i64 c.aw, .int .i64 c.sz, .int .i64 p.w.size, .int .i64 p.w.left, .int .i64 p.w.held, .int .i64 c.rw.size, .int .i64 c.rw.left, .int .i64 c.rw.held, .slice (some ⟨gx, 0, none⟩) n xc, .slice p.o p.ou.length p.oc, .slice pa c.pg.length pc, .bool c.cl] :: .rep F (fun w => Rws F w 4 fC u.o u.k.ob) :: M) (fun p => p.r.length) ⟨u.k.st, c.sw, c.ou, o, oc, u.o, u.oc, u.k.ob⟩ [true, true, true, true] ⟨rfl, htx, hfr, Nat.le_refl _, hcap, fun h0 => ?_⟩ ⟨J, J, trivial⟩ rfl ?_
  · obtain ⟨b, off, hx, _⟩ := hO h0
    exact ⟨b, off, 0, hx, by rw [hx]; simp, rfl⟩
  intro p hI
  have hk : (kv.set k (uS u p))[k]? = some (uS u p) := dH hu _
  have hki : k < kv.length := (List.getElem?_eq_some_iff.1 hu).1
  have hlnp := hI.ln
  have hcp := hI.cap
  repeat' (first | refine vx rfl (bM af 1 (v := .slice p.a p.r.length p.ac) J J J J J J (fun _ => by rw [Nat.zero_add]; exact aJ aK hk (k := 21) rfl)) ?_ | refine nx ?_)
  by_cases hr0 : p.r = []
  · refine ai rfl (by rw [hr0]; rfl) ?_
    repeat' refine cV ?_
    (refine bJ af (fun _ => 0) J J trivial rfl fun w1 hm => ?_)
    refine ⟨(_, p), ⟨hI, ?_⟩, rfl, hm⟩
    rw [hI.eq, hr0]; rfl
  obtain ⟨f, r, hfr0⟩ : ∃ f r, p.r = f :: r := by cases h : p.r with | nil => exact absurd h hr0 | cons f r => exact ⟨f, r, rfl⟩
  have hlen0 : 0 < p.r.length := by rw [hfr0]; exact Nat.succ_pos _
  obtain ⟨b, off, j, hx, ha, hdr⟩ := hI.at_ hlen0
  have hjf : u.k.ob[j]? = some f := by rw [← List.head?_drop, ← hdr, hfr0]; rfl
  have hj : j < u.k.ob.length := (List.getElem?_eq_some_iff.1 hjf).1
  have hfd0 := hI.fr f (by rw [hfr0]; exact List.mem_cons_self ..)
  have hrow : ∀ w, Rws F w 4 fC u.o u.k.ob → w.rangeAt b (off + j * 4 + 0 * 4) (fC f) := fun w h => by
    obtain ⟨b', off', hx', _, _, h4⟩ := h (by omega)
    rw [hx] at hx'
    obtain ⟨rfl, rfl⟩ := (by simpa using hx' : b = b' ∧ off = off')
    rw [Nat.zero_mul, Nat.add_zero]
    exact h4 j f hjf
  refine aq rfl (by rw [hfr0]; simp) ?_
  repeat' refine cV ?_
  refine bc ?_
  repeat' (first | refine vx rfl (bM af 1 (v := .slice (some ⟨b, off + j * 4, none⟩) p.r.length p.ac) J J J J J J (fun _ => by rw [Nat.zero_add, ← ha]; exact aJ aK hk (k := 21) rfl)) ?_ | refine vx rfl (ia (m := 4) 0 hlen0) ?_ | refine vx rfl (nV af 3 (cs := fC f) J J J J J J (fun _ w h => hrow w h)) ?_ | (refine al ?_; intro g4) | refine cV ?_)
  refine bc ?_
  repeat' refine cV ?_
  have hcn : 0 ≤ bE f ∧ bE f ≤ 4294967296 := by unfold bE au; split <;> (try split) <;> omega
  refine me (σ := Unit) (fun _ => True) (fun _ => [(5, [], .int .i64 (bE f)), (4, [], .pointer (some ⟨g4, 0, none⟩)), (0, [], .pointer (some ⟨gc, 0, none⟩)), (1, [], .pointer (some ⟨gx, 0 + k * 22, none⟩))]) (fun _ => .cl g4 74 (fC f) :: .own p.o p.oc 74 4 p.ou.length (p.ou.flatMap fC) :: .own (some ⟨gx, 0, none⟩) xc 87 22 n ((kv.set k (uS u p)).flatMap KC) :: .cl gc 34 [.int .i64 c.sd, .int .i64 c.nx, .int .i64 c.la, .int .i64 c.aw, .int .i64 c.sz, .int .i64 p.w.size, .int .i64 p.w.left, .int .i64 p.w.held, .int .i64 c.rw.size, .int .i64 c.rw.left, .int .i64 c.rw.held, .slice (some ⟨gx, 0, none⟩) n xc, .slice p.o p.ou.length p.oc, .slice pa c.pg.length pc, .bool c.cl] :: .rep F (fun w => Rws F w 4 fC u.o u.k.ob) :: M) ?_ ?_
  · skip
    repeat' refine nx ?_
    by_cases hk2 : f.kind = 2
    · refine aq rfl (by simpa using hk2) ?_
      repeat' (first | refine cl (fun w hm => ie f.data w) ?_ | refine cV ?_)
      refine cO () [] trivial ⟨by rw [bE, if_pos hk2]; rfl, rfl, rfl, rfl, trivial⟩ rfl
    · refine ai rfl (by simpa using hk2) ?_
      repeat' refine cV ?_
      refine cO () [] trivial ⟨by rw [bE, if_neg hk2]; rfl, rfl, rfl, rfl, trivial⟩ rfl
  rintro ⟨⟩ -
  repeat' (first | refine vx rfl (bM af 2 (v := .int .i64 p.st.snd.left) J J J J J J (fun _ => by rw [Nat.zero_add]; exact aJ aK hk (k := 11) rfl)) ?_ | refine nx ?_)
  by_cases hA : p.st.snd.left < bE f ∨ p.w.left < bE f
  · refine aq rfl (by simp only [Bool.or_eq_true, decide_eq_true_eq]; omega) ?_
    repeat' refine cV ?_
    (refine rt ?_; refine fun w1 hm => ?_)
    refine ⟨(_, p), ⟨hI, ?_⟩, rfl, hm.mask [false] rfl⟩
    rw [hI.eq, hfr0, jO, if_pos hA]
  refine ai rfl (by simp only [Bool.or_eq_false_iff, decide_eq_false_iff_not]; omega) ?_
  obtain ⟨r1, hr1⟩ : ∃ x, bh p.st f = x := ⟨_, rfl⟩
  obtain ⟨t1, ht1⟩ : ∃ x, cS p.w (bE f) = x := ⟨_, rfl⟩
  have hr1t : r1.st.text.size ≤ 4611686018427387900 := by rw [← hr1]; exact pq hI.tx hfd0
  repeat' (first | refine vx rfl (fv af 2 (cs := tC p.st) J J J J J J (fun _ i x hx => by rw [Nat.zero_add, Nat.add_zero]; exact aJ aK hk (BC hx))) ?_ | refine aL am rfl (by kernel_rfl) ?_ | (refine bC ?_; intro g) | ((refine' di rfl ?_ J J J ?_); rotate_left; first | exact fv af 2 (cs := tC p.st) J J J J J J (fun _ i x hx => by rw [Nat.zero_add, Nat.add_zero]; exact aJ aK hk (BC hx)) | exact aI af J J J J | exact bw af J J J J J J | exact ab af 0 J J J J J) | refine bm rfl (ap J J J J ⟨J, J, trivial⟩ rfl (by kernel_rfl)) rfl (fun w hm => xU p.st f r1 hr1 w hI.tx hfd0 (hg.below hm.below)) J J ?_ | refine bY af J J J J J J ?_ | refine nx ?_)
  by_cases he1 : r1.err = 0
  rotate_left
  · refine aq rfl (by simpa using he1) ?_
    repeat' refine cV ?_
    (refine rt ?_; refine fun w1 hm => ?_)
    refine ⟨(_, p), ⟨hI, ?_⟩, rfl, hm.mask [false, false] rfl⟩
    rw [hI.eq, hfr0, jO, if_neg hA, hr1, if_pos he1]
  refine ai rfl (by simpa using he1) ?_
  repeat' (first | (refine al ?_; intro g8) | refine cl (fun w hm => GW p.w (bE f) t1 ht1 w) ?_ | refine nx ?_)
  by_cases he2 : t1.err = 0
  rotate_left
  · refine aq rfl (by simpa using he2) ?_
    repeat' refine cV ?_
    (refine rt ?_; refine fun w1 hm => ?_)
    refine ⟨(_, p), ⟨hI, ?_⟩, rfl, hm.mask [false, false, false] rfl⟩
    rw [hI.eq, hfr0, jO, if_neg hA, hr1, if_neg (by simpa using he1), ht1, if_pos he2]
  refine ai rfl (by simpa using he2) ?_
  repeat' refine nx ?_
  have hoc0 : ((kv.set k (uS u p)).flatMap KC)[k * 22 + 21]? = some (.slice (some ⟨b, off + j * 4, none⟩) p.r.length p.ac) := by rw [← ha]; exact aJ aK hk (k := 21) rfl
  have hk1 : ((kv.set k (uS u p)).set k { uS u p with k := { (uS u p).k with st := r1.st } })[k]? = some { uS u p with k := { (uS u p).k with st := r1.st } } := dH hk _
  have hoc1 : (((kv.set k (uS u p)).set k { uS u p with k := { (uS u p).k with st := r1.st } }).flatMap KC)[k * 22 + 21]? = some (.slice (some ⟨b, off + j * 4, none⟩) p.r.length p.ac) := by rw [← ha]; exact aJ aK hk1 (k := 21) rfl
  refine bR [true, true, true, true, false, false] (fun w => w.cell? ⟨gx, 0 + k * 22 + 21, none⟩ = some (.slice (some ⟨b, off + j * 4, none⟩) p.r.length p.ac)) am (by kernel_rfl) J J (fun w hM => eT (hM.2.get (i := 4) rfl) (by rw [Nat.zero_add]; exact hoc0)) ?_
  iterate 8 (((refine' gp J J ?_ J J ?_); rotate_left; first | exact aI af J J J J | exact ab af 0 J J J J J | exact ab af 1 J J J J J))
  refine rW af J J J J J J (fun w h => h) J J ?_
  ((refine' gp J J ?_ J J ?_); rotate_left; exact cA af 1 p.r.length J J J J J J J J J J J (by omega) hcp)
  iterate 2 (((refine' gp J J ?_ J J ?_); rotate_left; exact aI af J J J J))
  refine oY af 5 J J J J J J J J J J J J (fun w h => ⟨h.mask [true, true, true, true, false, false] rfl, eT (h.2.get (i := 4) rfl) (by rw [Nat.zero_add]; exact hoc0)⟩) ?_
  iterate 2 (((refine' gp J J ?_ J J ?_); rotate_left; exact aI af J J J J))
  refine zd af 4 J J J J J J J J J (show jv _ (0 + k * 22 + 0) _ = _ from by rw [Nat.zero_add]; exact cy aK (kv.set k (uS u p)) k 0 (uS u p) { uS u p with k := { (uS u p).k with st := r1.st } } _ hk rfl) J J (fun w h => ⟨h.mask [true, true, true, true, false, false] rfl, eT (h.2.get (i := 4) rfl) (by rw [Nat.zero_add]; exact hoc1)⟩) ?_
  iterate 2 (((refine' gp J J ?_ J J ?_); rotate_left; exact aI af J J J J))
  refine Bj af 4 J J J J J J J J J (show jv _ (0 + k * 22 + 21) _ = _ from by rw [Nat.zero_add]; exact cy aK ((kv.set k (uS u p)).set k { uS u p with k := { (uS u p).k with st := r1.st } }) k 21 { uS u p with k := { (uS u p).k with st := r1.st } } { uS u p with k := { (uS u p).k with st := r1.st, ob := r }, o := (if p.ac = 1 then some ⟨b, off + j * 4, none⟩ else (some ⟨b, off + j * 4, none⟩ : Option Addr).map (·.add (1 * 4))), oc := p.ac - 1 } _ hk1 (by rw [show p.r.length - 1 = r.length by rw [hfr0]; rfl]; rfl)) J J ?_
  rw [List.set_set, List.set_set]
  repeat' refine nx ?_
  refine cY 7 am rfl (by kernel_rfl) ?_
  iterate 6 (((refine' di rfl ?_ J J J ?_); rotate_left; first | exact aI af J J J J | exact ab af 2 J J J J J | exact ab af 5 J J J J J))
  refine dV af J J J ⟨J, trivial⟩ J J J J J J J J ?_
  refine bC ?_
  intro s1
  refine bA af 4 0 J J J J J J J J J (fun _ _ => rfl) lw J J (by unfold maxLen; omega) (by omega) J J ?_
  intro sa sc
  repeat' refine cV ?_
  have hk2 : (kv.set k { uS u p with k := { (uS u p).k with st := r1.st, ob := r }, o := (if p.ac = 1 then some ⟨b, off + j * 4, none⟩ else (some ⟨b, off + j * 4, none⟩ : Option Addr).map (·.add (1 * 4))), oc := p.ac - 1 })[k]? = some { uS u p with k := { (uS u p).k with st := r1.st, ob := r }, o := (if p.ac = 1 then some ⟨b, off + j * 4, none⟩ else (some ⟨b, off + j * 4, none⟩ : Option Addr).map (·.add (1 * 4))), oc := p.ac - 1 } := dH hu _
  refine bj (σ := Value) (fun _ => True) (fun r => r) (fun _ => _) rfl (ap J J J J ⟨J, trivial⟩ rfl (by kernel_rfl)) (fun w hM => (kY gx xc n k (kv.set k { uS u p with k := { (uS u p).k with st := r1.st, ob := r }, o := (if p.ac = 1 then some ⟨b, off + j * 4, none⟩ else (some ⟨b, off + j * 4, none⟩ : Option Addr).map (·.add (1 * 4))), oc := p.ac - 1 }) { uS u p with k := { (uS u p).k with st := r1.st, ob := r }, o := (if p.ac = 1 then some ⟨b, off + j * 4, none⟩ else (some ⟨b, off + j * 4, none⟩ : Option Addr).map (·.add (1 * 4))), oc := p.ac - 1 } hk2 w (hM.perm (List.perm_middle (l₁ := [_, _, _, _, _])))).mono fun e w' ⟨r, h1, h2, h3⟩ => ⟨r, trivial, h2, h3⟩) J J ?_
  rintro rv -
  rw [List.set_set]
  repeat' refine cV ?_
  have hrd : p.r.length = r.length + 1 := by rw [hfr0]; rfl
  have hdr1 : r = u.k.ob.drop (j + 1) := by rw [hfr0, kT hjf] at hdr; exact (List.cons.inj hdr).2
  have hstep : jO u.k.ob u.k.st c.sw c.ou = if r1.st.done = true then ⟨r1.st, t1.win, [], p.ou ++ [f]⟩ else jO r r1.st t1.win (p.ou ++ [f]) := by
    rw [hI.eq, hfr0, jO, if_neg hA, hr1, if_neg (by simpa using he1), ht1, if_neg (by simpa using he2)]
  cases hdn : r1.st.done with
  | true =>
    rw [hdn, if_pos rfl] at hstep
    rw [fX, if_pos (show ({ uS u p with k := { (uS u p).k with st := r1.st, ob := r }, o := (if p.ac = 1 then some ⟨b, off + j * 4, none⟩ else (some ⟨b, off + j * 4, none⟩ : Option Addr).map (·.add (1 * 4))), oc := p.ac - 1 } : KV).k.st.done = true from hdn)]
    refine gk (M' := .own (⟨r1.st, t1.win, p.ou ++ [f], sa, sc, none, 0, []⟩ : lz).o (⟨r1.st, t1.win, p.ou ++ [f], sa, sc, none, 0, []⟩ : lz).oc 74 4 (⟨r1.st, t1.win, p.ou ++ [f], sa, sc, none, 0, []⟩ : lz).ou.length ((⟨r1.st, t1.win, p.ou ++ [f], sa, sc, none, 0, []⟩ : lz).ou.flatMap fC) :: .own (some ⟨gx, 0, none⟩) xc 87 22 n ((kv.set k (uS u (⟨r1.st, t1.win, p.ou ++ [f], sa, sc, none, 0, []⟩ : lz))).flatMap KC) :: .cl gc 34 [.int .i64 c.sd, .int .i64 c.nx, .int .i64 c.la, .int .i64 c.aw, .int .i64 c.sz, .int .i64 (⟨r1.st, t1.win, p.ou ++ [f], sa, sc, none, 0, []⟩ : lz).w.size, .int .i64 (⟨r1.st, t1.win, p.ou ++ [f], sa, sc, none, 0, []⟩ : lz).w.left, .int .i64 (⟨r1.st, t1.win, p.ou ++ [f], sa, sc, none, 0, []⟩ : lz).w.held, .int .i64 c.rw.size, .int .i64 c.rw.left, .int .i64 c.rw.held, .slice (some ⟨gx, 0, none⟩) n xc, .slice (⟨r1.st, t1.win, p.ou ++ [f], sa, sc, none, 0, []⟩ : lz).o (⟨r1.st, t1.win, p.ou ++ [f], sa, sc, none, 0, []⟩ : lz).ou.length (⟨r1.st, t1.win, p.ou ++ [f], sa, sc, none, 0, []⟩ : lz).oc, .slice pa c.pg.length pc, .bool c.cl] :: .rep F (fun w => Rws F w 4 fC u.o u.k.ob) :: M) (fun w hM => ?_) ?_
    · have h1 := (hM.mask [true, false, false, false, false, true, true] rfl).perm (List.Perm.swap _ _ _)
      simp only [List.flatMap_append, List.flatMap_singleton, List.length_append, List.length_singleton]
      exact h1
    · exact aU ⟨r1.st, t1.win, p.ou ++ [f], sa, sc, none, 0, []⟩ [] ⟨hstep, hr1t, fun x hx => (by cases hx), by simp; omega, Nat.le_refl _, fun h => absurd h (Nat.lt_irrefl _)⟩ (by rw [hrd]; exact Nat.succ_pos _) ⟨J, J, trivial⟩ rfl
  | false =>
    rw [hdn, if_neg (by simp)] at hstep
    rw [fX, if_neg (show ¬ ({ uS u p with k := { (uS u p).k with st := r1.st, ob := r }, o := (if p.ac = 1 then some ⟨b, off + j * 4, none⟩ else (some ⟨b, off + j * 4, none⟩ : Option Addr).map (·.add (1 * 4))), oc := p.ac - 1 } : KV).k.st.done = true by show ¬ r1.st.done = true; rw [hdn]; simp)]
    refine gk (M' := .own (⟨r1.st, t1.win, p.ou ++ [f], sa, sc, (if p.ac = 1 then some ⟨b, off + j * 4, none⟩ else (some ⟨b, off + j * 4, none⟩ : Option Addr).map (·.add (1 * 4))), p.ac - 1, r⟩ : lz).o (⟨r1.st, t1.win, p.ou ++ [f], sa, sc, (if p.ac = 1 then some ⟨b, off + j * 4, none⟩ else (some ⟨b, off + j * 4, none⟩ : Option Addr).map (·.add (1 * 4))), p.ac - 1, r⟩ : lz).oc 74 4 (⟨r1.st, t1.win, p.ou ++ [f], sa, sc, (if p.ac = 1 then some ⟨b, off + j * 4, none⟩ else (some ⟨b, off + j * 4, none⟩ : Option Addr).map (·.add (1 * 4))), p.ac - 1, r⟩ : lz).ou.length ((⟨r1.st, t1.win, p.ou ++ [f], sa, sc, (if p.ac = 1 then some ⟨b, off + j * 4, none⟩ else (some ⟨b, off + j * 4, none⟩ : Option Addr).map (·.add (1 * 4))), p.ac - 1, r⟩ : lz).ou.flatMap fC) :: .own (some ⟨gx, 0, none⟩) xc 87 22 n ((kv.set k (uS u (⟨r1.st, t1.win, p.ou ++ [f], sa, sc, (if p.ac = 1 then some ⟨b, off + j * 4, none⟩ else (some ⟨b, off + j * 4, none⟩ : Option Addr).map (·.add (1 * 4))), p.ac - 1, r⟩ : lz))).flatMap KC) :: .cl gc 34 [.int .i64 c.sd, .int .i64 c.nx, .int .i64 c.la, .int .i64 c.aw, .int .i64 c.sz, .int .i64 (⟨r1.st, t1.win, p.ou ++ [f], sa, sc, (if p.ac = 1 then some ⟨b, off + j * 4, none⟩ else (some ⟨b, off + j * 4, none⟩ : Option Addr).map (·.add (1 * 4))), p.ac - 1, r⟩ : lz).w.size, .int .i64 (⟨r1.st, t1.win, p.ou ++ [f], sa, sc, (if p.ac = 1 then some ⟨b, off + j * 4, none⟩ else (some ⟨b, off + j * 4, none⟩ : Option Addr).map (·.add (1 * 4))), p.ac - 1, r⟩ : lz).w.left, .int .i64 (⟨r1.st, t1.win, p.ou ++ [f], sa, sc, (if p.ac = 1 then some ⟨b, off + j * 4, none⟩ else (some ⟨b, off + j * 4, none⟩ : Option Addr).map (·.add (1 * 4))), p.ac - 1, r⟩ : lz).w.held, .int .i64 c.rw.size, .int .i64 c.rw.left, .int .i64 c.rw.held, .slice (some ⟨gx, 0, none⟩) n xc, .slice (⟨r1.st, t1.win, p.ou ++ [f], sa, sc, (if p.ac = 1 then some ⟨b, off + j * 4, none⟩ else (some ⟨b, off + j * 4, none⟩ : Option Addr).map (·.add (1 * 4))), p.ac - 1, r⟩ : lz).o (⟨r1.st, t1.win, p.ou ++ [f], sa, sc, (if p.ac = 1 then some ⟨b, off + j * 4, none⟩ else (some ⟨b, off + j * 4, none⟩ : Option Addr).map (·.add (1 * 4))), p.ac - 1, r⟩ : lz).ou.length (⟨r1.st, t1.win, p.ou ++ [f], sa, sc, (if p.ac = 1 then some ⟨b, off + j * 4, none⟩ else (some ⟨b, off + j * 4, none⟩ : Option Addr).map (·.add (1 * 4))), p.ac - 1, r⟩ : lz).oc, .slice pa c.pg.length pc, .bool c.cl] :: .rep F (fun w => Rws F w 4 fC u.o u.k.ob) :: M) (fun w hM => ?_) ?_
    · have h1 := (hM.mask [true, false, false, false, false, true, true] rfl).perm (List.Perm.swap _ _ _)
      simp only [List.flatMap_append, List.flatMap_singleton, List.length_append, List.length_singleton]
      exact h1
    · refine aU ⟨r1.st, t1.win, p.ou ++ [f], sa, sc, (if p.ac = 1 then some ⟨b, off + j * 4, none⟩ else (some ⟨b, off + j * 4, none⟩ : Option Addr).map (·.add (1 * 4))), p.ac - 1, r⟩ [] ⟨hstep, hr1t, fun x hx => hI.fr x (by rw [hfr0]; exact List.mem_cons_of_mem _ hx), by simp; omega, show r.length ≤ p.ac - 1 by omega, fun h => ⟨b, off, j + 1, hx, ?_, hdr1⟩⟩ (by rw [hrd]; exact Nat.lt_succ_self _) ⟨J, J, trivial⟩ rfl
      have h2 : ¬ p.ac = 1 := by have : 0 < r.length := h; omega
      show (if p.ac = 1 then some ⟨b, off + j * 4, none⟩ else (some ⟨b, off + j * 4, none⟩ : Option Addr).map (·.add (1 * 4))) = _
      rw [if_neg h2]
      show some (⟨b, off + j * 4 + 1 * 4, none⟩ : Addr) = _
      rw [show off + j * 4 + 1 * 4 = off + (j + 1) * 4 by omega]
end Go.Proofs.YtklcfjlmlbnkaaaGreatDoor.Y
