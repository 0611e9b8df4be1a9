/- Texts of this claim merged into one: QCn2, QCn4. -/
import Derived.Test.YthiocbcokfondaaGreatDoorQBunE
import Derived.Test.YthiocbcokfondaaGreatDoorQStr3Y
namespace Go.Proofs.YthiocbcokfondaaGreatDoor.Y
open Go.RowKit
attribute [local irreducible] Calls
def DS : Option Nat → Int
  | some k => k
  | none => -1
theorem qH : ∀ (l : List ByteArray) (s : ByteArray), aW (l ++ [s]) = aW l + aI s
  | [], s => by simp [aW]
  | a :: l, s => by rw [List.cons_append, aW, qH l s, aW]; omega
theorem qI (s : ByteArray) : 1 ≤ aI s := by unfold aI; split <;> omega
theorem kF : ∀ l : List ByteArray, 0 ≤ aW l
  | [] => Int.le_refl _
  | a :: l => by have := kF l; have := qI a; rw [aW]; omega
theorem xn {l : List ByteArray} {j : Nat} {s : ByteArray} (h : l[j]? = some s) : aW (l.take (j + 1)) = aW (l.take j) + aI s := by rw [kC h, qH]
theorem vY : ∀ (l : List ByteArray) (j : Nat), aW (l.take j) ≤ aW l
  | [], j => by simp
  | a :: l, 0 => by have := kF (a :: l); simpa [aW] using this
  | a :: l, j + 1 => by have := vY l j; rw [List.take_succ_cons, aW, aW]; omega
theorem qJ : ∀ (l : List KR) (k : KR), be (l ++ [k]) = be l + aW k.ib
  | [], s => by simp [be]
  | a :: l, s => by rw [List.cons_append, be, qJ l s, be]; omega
theorem nA : ∀ l : List KR, 0 ≤ be l
  | [] => Int.le_refl _
  | a :: l => by have := nA l; have := kF a.ib; rw [be]; omega
theorem xo {l : List KR} {j : Nat} {s : KR} (h : l[j]? = some s) : be (l.take (j + 1)) = be (l.take j) + aW s.ib := by rw [kC h, qJ]
theorem vZ : ∀ (l : List KR) (j : Nat), be (l.take j) ≤ be l
  | [], j => by simp
  | a :: l, 0 => by have := nA (a :: l); simpa [be] using this
  | a :: l, j + 1 => by have := vZ l j; rw [List.take_succ_cons, be, be]; omega
theorem ja {l : List KR} {k : KR} (h : k ∈ l) : aW k.ib ≤ be l := by
  induction l with
  | nil => cases h
  | cons a l ih =>
    have h0 := nA l
    have h1 := kF a.ib
    rw [be]
    rcases List.mem_cons.1 h with rfl | h
    · omega
    · have := ih h
      omega
theorem zg {w0 w : World} {M : List Ent} {g : Nat} {T : TypeId} {v : Value} {r : List Value} (i : Nat) (hM : Mem w0 w M) (h : fB M i = some (.cl g T (v :: r))) : w.cell? ⟨g, 0, none⟩ = some v := by
  have hb : Bk w g T ⟨v :: r⟩ := (hM.2.get (i := i) h).2
  exact hb.at_ 0 rfl
set_option maxRecDepth 100000 in
set_option maxHeartbeats 8000000 in
theorem zh (u : KV) (id : Int) (g : Nat) (w : World) (hc : w.cell? ⟨g, 0, none⟩ = some (.int .i64 id)) : Calls Tryz.prog 89 #[.agg #[.int .i64 u.k.st.id, .int .i64 u.k.st.side, .int .i64 u.k.st.shape, .int .i64 u.k.st.sent, .int .i64 u.k.st.got, .bool u.k.st.se, .bool u.k.st.ge, .bool u.k.st.done, .int .i64 u.k.st.code, .string u.k.st.text, .int .i64 u.k.st.snd.size, .int .i64 u.k.st.snd.left, .int .i64 u.k.st.snd.held, .int .i64 u.k.st.rcv.size, .int .i64 u.k.st.rcv.left, .int .i64 u.k.st.rcv.held, .string u.k.sv, .string u.k.mt, .int .i64 u.k.lt, .slice u.m u.k.ms.length u.mc, .slice u.i u.k.ib.length u.ic, .slice u.o u.k.ob.length u.oc], .pointer (some ⟨g, 0, none⟩)] w fun e w' => e = .returned (.bool (u.k.st.id == id)) ∧ Below w.heap.size w w' := by
  refine aQ Tryz.func89 rfl Tryz.ntmps89 J J ?_
  repeat' (first | refine ai ?_ | refine aa ?_ | refine ab ?_ | refine aA ?_ | refine ag ?_ | ((refine' am rfl ?_ J J ?_); rotate_left; first | exact eH af J J J J J (fun _ => hc) | exact ak af J J J J | exact aq af J J J J J J | exact ae af 0 J J J J J) | (refine aV J J J J J J ?_; intro g))
  refine aC af (fun _ => 0) J J trivial rfl fun w hm => ⟨?_, hm.below⟩
  rfl
set_option maxRecDepth 100000 in
set_option maxHeartbeats 8000000 in
theorem zi {A : Nat → Prop} (v : NV) (id : Int) (g : Nat) (w : World) (hc : w.cell? ⟨g, 0, none⟩ = some (.int .i64 id)) (hN : NOk A w v) (hzk : v.kv.length ≤ 606626243774) : Calls Tryz.prog 88 #[.slice v.x v.kv.length v.xc, .func (.func 89) #[] #[.pointer (some ⟨g, 0, none⟩)]] w fun e w' => e = .returned (.int .i64 (DS (dO id v.c.ks 0))) ∧ Below w.heap.size w w' := by
  refine aQ Tryz.func88 rfl Tryz.ntmps88 J J ?_
  have hl := hN.lenk
  repeat' (first | refine ai ?_ | refine aa ?_ | refine ab ?_ | refine aJ ?_ | refine ag ?_ | ((refine' am rfl ?_ J J ?_); rotate_left; first | exact ak af J J J J | exact bh af J J J J J J J))
  refine cK (σ := Nat) (fun p => p ≤ v.kv.length ∧ dO id v.c.ks 0 = dO id (v.c.ks.drop p) p) (fun p => [(8, [], .int .i64 ((p : Nat) : Int)), (7, [], .int .i64 ((v.kv.length : Nat) : Int)), (0, [], .slice v.x v.kv.length v.xc), (1, [], .func (.func 89) #[] #[.pointer (some ⟨g, 0, none⟩)])]) (fun _ => []) (fun p => v.kv.length - p) 0 [] ⟨Nat.zero_le _, rfl⟩ ⟨J, J, J, J, trivial⟩ rfl ?_
  rintro j ⟨hj0, hr⟩
  by_cases hj : j < v.kv.length
  · skip
    obtain ⟨u, hu0⟩ : ∃ u, v.kv[j]? = some u := ⟨v.kv[j], List.getElem?_eq_getElem hj⟩
    obtain ⟨bb, off, hx, _, _, hrows⟩ := hN.ks (by omega)
    have hrow : w.rangeAt bb (off + j * 22) (KC u) := hrows j u hu0
    have hq : v.c.ks[j]? = some u.k := by rw [hN.eq, List.getElem?_map, hu0]; rfl
    rw [eJ hq, dO] at hr
    rw [hx]
    repeat' (first | refine ai ?_ | refine aa ?_ | refine ab ?_ | refine ag ?_ | ((refine' am rfl ?_ J J ?_); rotate_left; exact aq af J J J J J J))
    refine aB rfl (by simp; omega) ?_
    repeat' (first | refine ai ?_ | refine aa ?_ | refine ab ?_ | refine ay ?_ | refine aJ ?_ | refine ag ?_ | ((refine' am rfl ?_ J J ?_); rotate_left; first | exact cm af (m := 22) j J J J J J J J J (fun _ => rfl) (fun _ => hj) | exact dC af (cs := KC u) J J J J J (fun _ => hrow) | exact ak af J J J J) | refine aK rfl (av J J J J ⟨J, trivial⟩ rfl (by kernel_rfl)) (fun w hm => zh u id g w ((hm.below.cell (block_lt_of_cell hc)).trans hc)) J J ?_)
    by_cases hh : u.k.st.id = id
    · rw [if_pos hh] at hr
      refine aB rfl (by simpa using hh) ?_
      repeat' (first | refine ai ?_ | refine aa ?_ | refine ab ?_ | refine aA ?_ | refine au ?_ | refine ba ?_ | refine ag ?_ | ((refine' am rfl ?_ J J ?_); rotate_left; exact ak af J J J J))
      refine aC af (fun _ => 0) J J trivial rfl fun w hm => ⟨?_, hm.below⟩
      rw [hr]; rfl
    · rw [if_neg hh] at hr
      refine ar rfl (by simpa using hh) ?_
      repeat' (first | refine aa ?_ | refine ab ?_ | refine ay ?_ | refine ax ?_ | refine ag ?_ | ((refine' am rfl ?_ J J ?_); rotate_left; first | exact bN J J J J J (by omega) | exact ak af J J J J))
      refine bA (j + 1) [] ⟨hj, hr⟩ (show v.kv.length - (j + 1) < v.kv.length - j by omega) ⟨J, J, J, J, trivial⟩ rfl
  · rw [List.drop_eq_nil_of_le (by omega)] at hr
    repeat' (first | refine ai ?_ | refine aa ?_ | refine ab ?_ | refine ag ?_ | ((refine' am rfl ?_ J J ?_); rotate_left; exact aq af J J J J J J))
    refine ar rfl (by simp; omega) ?_
    repeat' (first | refine ai ?_ | refine aa ?_ | refine ab ?_ | refine aA ?_ | refine bq ?_ | refine aN ?_ | refine aT ?_ | refine ag ?_ | ((refine' am rfl ?_ J J ?_); rotate_left; exact ak af J J J J))
    refine aC af (fun _ => 0) J J trivial rfl fun w hm => ⟨?_, hm.below⟩
    rw [hr]; rfl
set_option maxRecDepth 100000 in
set_option maxHeartbeats 8000000 in
theorem Bz {A : Nat → Prop} (v : NV) (id : Int) (w : World) (hN : NOk A w v) (hzk : v.kv.length ≤ 606626243774) : Calls Tryz.prog 37 #[.agg #[.int .i64 v.c.sd, .int .i64 v.c.nx, .int .i64 v.c.la, .int .i64 v.c.aw, .int .i64 v.c.sz, .int .i64 v.c.sw.size, .int .i64 v.c.sw.left, .int .i64 v.c.sw.held, .int .i64 v.c.rw.size, .int .i64 v.c.rw.left, .int .i64 v.c.rw.held, .slice v.x v.kv.length v.xc, .slice v.o v.c.ou.length v.oc, .slice v.p v.c.pg.length v.pc, .bool v.c.cl], .int .i64 id] w fun e w' => e = .returned (.int .i64 (DS (dO id v.c.ks 0))) ∧ Below w.heap.size w w' := by
  refine aQ Tryz.func37 rfl Tryz.ntmps37 J J ?_
  repeat' (first | refine ai ?_ | refine aa ?_ | refine ab ?_ | refine aA ?_ | refine ag ?_ | (refine aV J J J J J J ?_; intro g1) | ((refine' am rfl ?_ J J ?_); rotate_left; first | exact yj J J trivial rfl ⟨J, trivial⟩ | exact ak af J J J J | exact ae af 1 J J J J J) | refine aK rfl (av J J J J ⟨J, J, trivial⟩ rfl (by kernel_rfl)) (fun w hm => zi v id _ w (zg 0 hm rfl) (hN.below hm.below) hzk) J J ?_)
  refine aC af (fun _ => 0) J J trivial rfl fun w hm => ⟨?_, hm.below⟩
  rfl
set_option maxRecDepth 100000 in
set_option maxHeartbeats 8000000 in
theorem oX {A : Nat → Prop} (v : KV) (w : World) (hI : Rws A w 1 sC v.i v.k.ib) (hub : aW v.k.ib ≤ 4611686018427387904) (hzi : v.k.ib.length ≤ 8796093022208) : Calls Tryz.prog 78 #[.agg #[.int .i64 v.k.st.id, .int .i64 v.k.st.side, .int .i64 v.k.st.shape, .int .i64 v.k.st.sent, .int .i64 v.k.st.got, .bool v.k.st.se, .bool v.k.st.ge, .bool v.k.st.done, .int .i64 v.k.st.code, .string v.k.st.text, .int .i64 v.k.st.snd.size, .int .i64 v.k.st.snd.left, .int .i64 v.k.st.snd.held, .int .i64 v.k.st.rcv.size, .int .i64 v.k.st.rcv.left, .int .i64 v.k.st.rcv.held, .string v.k.sv, .string v.k.mt, .int .i64 v.k.lt, .slice v.m v.k.ms.length v.mc, .slice v.i v.k.ib.length v.ic, .slice v.o v.k.ob.length v.oc]] w fun e w' => e = .returned (.int .i64 (aW v.k.ib)) ∧ Below w.heap.size w w' := by
  refine aQ Tryz.func78 rfl Tryz.ntmps78 J J ?_
  repeat' (first | refine ai ?_ | refine aa ?_ | refine ab ?_ | refine aJ ?_ | refine ag ?_ | (refine aV J J J J J J ?_; intro g1) | ((refine' am rfl ?_ J J ?_); rotate_left; first | exact ak af J J J J | exact ae af 0 J J J J J | exact bh af J J J J J J J))
  refine cK (σ := Nat) (fun p => p ≤ v.k.ib.length) (fun p => [(9, [], .int .i64 ((p : Nat) : Int)), (8, [], .int .i64 ((v.k.ib.length : Nat) : Int)), (7, [], .slice v.i v.k.ib.length v.ic), (3, [], .int .i64 (aW (v.k.ib.take p)))]) (fun _ => [.cl g1 39 [.int .i64 v.k.st.id, .int .i64 v.k.st.side, .int .i64 v.k.st.shape, .int .i64 v.k.st.sent, .int .i64 v.k.st.got, .bool v.k.st.se, .bool v.k.st.ge, .bool v.k.st.done, .int .i64 v.k.st.code, .string v.k.st.text, .int .i64 v.k.st.snd.size, .int .i64 v.k.st.snd.left, .int .i64 v.k.st.snd.held, .int .i64 v.k.st.rcv.size, .int .i64 v.k.st.rcv.left, .int .i64 v.k.st.rcv.held, .string v.k.sv, .string v.k.mt, .int .i64 v.k.lt, .slice v.m v.k.ms.length v.mc, .slice v.i v.k.ib.length v.ic, .slice v.o v.k.ob.length v.oc]]) (fun p => v.k.ib.length - p) 0 [true] (Nat.zero_le _) ⟨J, J, J, J, trivial⟩ rfl ?_
  intro j hj0
  by_cases hj : j < v.k.ib.length
  · skip
    obtain ⟨s, hs⟩ : ∃ s, v.k.ib[j]? = some s := ⟨v.k.ib[j], List.getElem?_eq_getElem hj⟩
    obtain ⟨bb, off, hx, _, _, hrows⟩ := hI (by omega)
    have hrow : w.rangeAt bb (off + j * 1) (sC s) := hrows j s hs
    have hun := xn hs
    have hue := vY v.k.ib (j + 1)
    have hu1 := kF (v.k.ib.take j)
    have hco := qI s
    rw [hx]
    repeat' (first | refine ai ?_ | refine aa ?_ | refine ab ?_ | refine ag ?_ | ((refine' am rfl ?_ J J ?_); rotate_left; exact aq af J J J J J J))
    refine aB rfl (by simp; omega) ?_
    repeat' (first | refine ai ?_ | refine aa ?_ | refine ab ?_ | refine ay ?_ | refine aJ ?_ | refine ax ?_ | refine ag ?_ | ((refine' am rfl ?_ J J ?_); rotate_left; first | exact cm af (m := 1) j J J J J J J J J (fun _ => rfl) (fun _ => hj) | exact eH af (v := .string s) J J J J J (fun _ => hrow 0 _ rfl) | exact bN J J J J J (by omega) | exact ak af J J J J) | refine aK rfl (av J J J J ⟨J, trivial⟩ rfl (by kernel_rfl)) (fun w hm => hJ s w) J J ?_)
    rw [← hun]
    refine bA (j + 1) [true] hj (show v.k.ib.length - (j + 1) < v.k.ib.length - j by omega) ⟨J, J, J, J, trivial⟩ rfl
  · have hjl : j = v.k.ib.length := by omega
    subst hjl
    repeat' (first | refine ai ?_ | refine aa ?_ | refine ab ?_ | refine ag ?_ | ((refine' am rfl ?_ J J ?_); rotate_left; exact aq af J J J J J J))
    refine ar rfl (by simp) ?_
    repeat' (first | refine ai ?_ | refine aa ?_ | refine ab ?_ | refine aA ?_ | refine bq ?_ | refine aN ?_ | refine aT ?_ | refine ag ?_ | ((refine' am rfl ?_ J J ?_); rotate_left; exact ak af J J J J))
    refine aC af (fun _ => 0) J J trivial rfl fun w hm => ⟨?_, hm.below⟩
    rw [List.take_length]
set_option maxRecDepth 100000 in
set_option maxHeartbeats 8000000 in
theorem zj {A : Nat → Prop} (v : NV) (w : World) (hN : NOk A w v) (hzk : v.kv.length ≤ 606626243774) (htb : be v.c.ks ≤ 4611686018427387904) (hzi : ∀ u ∈ v.kv, u.k.ib.length ≤ 8796093022208) : Calls Tryz.prog 31 #[.agg #[.int .i64 v.c.sd, .int .i64 v.c.nx, .int .i64 v.c.la, .int .i64 v.c.aw, .int .i64 v.c.sz, .int .i64 v.c.sw.size, .int .i64 v.c.sw.left, .int .i64 v.c.sw.held, .int .i64 v.c.rw.size, .int .i64 v.c.rw.left, .int .i64 v.c.rw.held, .slice v.x v.kv.length v.xc, .slice v.o v.c.ou.length v.oc, .slice v.p v.c.pg.length v.pc, .bool v.c.cl]] w fun e w' => e = .returned (.int .i64 (be v.c.ks)) ∧ Below w.heap.size w w' := by
  refine aQ Tryz.func31 rfl Tryz.ntmps31 J J ?_
  have hl := hN.lenk
  repeat' (first | refine ai ?_ | refine aa ?_ | refine ab ?_ | refine aJ ?_ | refine ag ?_ | (refine aV J J J J J J ?_; intro g1) | ((refine' am rfl ?_ J J ?_); rotate_left; first | exact ak af J J J J | exact ae af 0 J J J J J | exact bh af J J J J J J J))
  refine cK (σ := Nat) (fun p => p ≤ v.kv.length) (fun p => [(9, [], .int .i64 ((p : Nat) : Int)), (8, [], .int .i64 ((v.kv.length : Nat) : Int)), (7, [], .slice v.x v.kv.length v.xc), (3, [], .int .i64 (be (v.c.ks.take p)))]) (fun _ => [.cl g1 28 [.int .i64 v.c.sd, .int .i64 v.c.nx, .int .i64 v.c.la, .int .i64 v.c.aw, .int .i64 v.c.sz, .int .i64 v.c.sw.size, .int .i64 v.c.sw.left, .int .i64 v.c.sw.held, .int .i64 v.c.rw.size, .int .i64 v.c.rw.left, .int .i64 v.c.rw.held, .slice v.x v.kv.length v.xc, .slice v.o v.c.ou.length v.oc, .slice v.p v.c.pg.length v.pc, .bool v.c.cl]]) (fun p => v.kv.length - p) 0 [true] (Nat.zero_le _) ⟨J, J, J, J, trivial⟩ rfl ?_
  intro j hj0
  by_cases hj : j < v.kv.length
  · skip
    obtain ⟨u, hu0⟩ : ∃ u, v.kv[j]? = some u := ⟨v.kv[j], List.getElem?_eq_getElem hj⟩
    obtain ⟨bb, off, hx, _, _, hrows⟩ := hN.ks (by omega)
    have hrow : w.rangeAt bb (off + j * 22) (KC u) := hrows j u hu0
    have hq : v.c.ks[j]? = some u.k := by rw [hN.eq, List.getElem?_map, hu0]; rfl
    have hu := List.mem_of_getElem? hu0
    have hun := xo hq
    have hue := vZ v.c.ks (j + 1)
    have hu1 := nA (v.c.ks.take j)
    have hu2 := kF u.k.ib
    rw [hx]
    repeat' (first | refine ai ?_ | refine aa ?_ | refine ab ?_ | refine ag ?_ | ((refine' am rfl ?_ J J ?_); rotate_left; exact aq af J J J J J J))
    refine aB rfl (by simp; omega) ?_
    repeat' (first | refine ai ?_ | refine aa ?_ | refine ab ?_ | refine ay ?_ | refine aJ ?_ | refine ax ?_ | refine ag ?_ | (refine aG af J J J J J J ?_; intro g5) | ((refine' am rfl ?_ J J ?_); rotate_left; first | exact cm af (m := 22) j J J J J J J J J (fun _ => rfl) (fun _ => hj) | exact dC af (cs := KC u) J J J J J (fun _ => hrow) | exact bN J J J J J (by omega) | exact ak af J J J J | exact ae af 0 J J J J J) | refine aK rfl (av J J J J ⟨J, trivial⟩ rfl (by kernel_rfl)) (fun w hm => oX u w ((hN.ok u hu).2.1.below hm.below) (by omega) (hzi u hu)) J J ?_ | refine aj af 0 J J J J J J J J J J J J ?_)
    rw [← hun]
    refine bA (j + 1) [false, true] hj (show v.kv.length - (j + 1) < v.kv.length - j by omega) ⟨J, J, J, J, trivial⟩ rfl
  · have hjl : j = v.kv.length := by omega
    subst hjl
    repeat' (first | refine ai ?_ | refine aa ?_ | refine ab ?_ | refine ag ?_ | ((refine' am rfl ?_ J J ?_); rotate_left; exact aq af J J J J J J))
    refine ar rfl (by simp) ?_
    repeat' (first | refine ai ?_ | refine aa ?_ | refine ab ?_ | refine aA ?_ | refine bq ?_ | refine aN ?_ | refine aT ?_ | refine ag ?_ | ((refine' am rfl ?_ J J ?_); rotate_left; exact ak af J J J J))
    refine aC af (fun _ => 0) J J trivial rfl fun w hm => ⟨?_, hm.below⟩
    rw [← hl, List.take_length]
end Go.Proofs.YthiocbcokfondaaGreatDoor.Y
namespace Go.Proofs.YthiocbcokfondaaGreatDoor.Y
open Go.RowKit
structure Fy where
  win : bj
  n : Int
def CL (w : bj) : Fy := if bl w = false ∨ w.held = 0 ∨ 2 * w.held < w.size then ⟨w, 0⟩ else ⟨⟨w.size, w.left + w.held, 0⟩, w.held⟩
theorem DT (w : bj) : (CL w).n = Bg w := by unfold CL Bg; split <;> rfl
theorem CN (d : ByteArray) : (bu d).text.size ≤ d.size := by
  unfold bu
  split
  · unfold gF
    repeat' split
    all_goals first
      | exact Nat.zero_le _
      | (show (d.extract _ d.size).size ≤ d.size; rw [ByteArray.size_extract]; omega)
  · exact Nat.zero_le _
theorem xp {s : cx} {f : aY} (h2 : f.data.size < 4294967281) : (eO s f).text.size ≤ 4611686018427387900 := by
  unfold eO eA
  split
  · exact Nat.zero_le _
  · have := CN f.data
    show (bu f.data).text.size ≤ _
    omega
theorem oY {s : cx} {f : aY} (h1 : s.text.size ≤ 4611686018427387900) (h2 : f.data.size < 4294967281) : (bD s f).st.text.size ≤ 4611686018427387900 := by
  unfold bD
  repeat' split
  all_goals first
    | exact h1
    | exact xp h2
theorem wd (s : cx) (f : aY) (r : Bf) (h : bD s f = r) (w : World) (htx : s.text.size ≤ 4611686018427387900) (hfd : f.data.size < 4294967281) (hl : MLen w) : Calls Tryz.prog 107 #[.agg #[.int .i64 s.id, .int .i64 s.side, .int .i64 s.shape, .int .i64 s.sent, .int .i64 s.got, .bool s.se, .bool s.ge, .bool s.done, .int .i64 s.code, .string s.text, .int .i64 s.snd.size, .int .i64 s.snd.left, .int .i64 s.snd.held, .int .i64 s.rcv.size, .int .i64 s.rcv.left, .int .i64 s.rcv.held], .agg #[.int .i64 f.kind, .int .i64 f.strm, .int .i64 f.num, .string f.data]] w fun e w' => e = .returned (.tuple #[.agg ⟨tC r.st⟩, .int .i64 r.err]) ∧ Below w.heap.size w w' := by
  subst h
  exact zd s.id s.side s.shape s.sent s.got s.se s.ge s.done s.code s.text s.snd.size s.snd.left s.snd.held s.rcv.size s.rcv.left s.rcv.held f.kind f.strm f.num f.data w htx hfd hl
attribute [local irreducible] Calls
set_option maxRecDepth 100000 in
set_option maxHeartbeats 4000000 in
theorem zk (a b c : Int) (w : World) : Calls Tryz.prog 193 #[.agg #[.int .i64 a, .int .i64 b, .int .i64 c]] w fun e w' => e = .returned (.tuple #[.agg #[.int .i64 (CL ⟨a, b, c⟩).win.size, .int .i64 (CL ⟨a, b, c⟩).win.left, .int .i64 (CL ⟨a, b, c⟩).win.held], .int .i64 (CL ⟨a, b, c⟩).n]) ∧ Below w.heap.size w w' := by
  refine aQ Tryz.func193 rfl Tryz.ntmps193 J J ?_
  repeat' (first | refine ai ?_ | refine aa ?_ | refine ab ?_ | refine aA ?_ | refine ay ?_ | refine au ?_ | refine ag ?_ | ((refine' am rfl ?_ J J ?_); rotate_left; first | exact ak af J J J J | exact aq af J J J J J J | exact bL J J J J J | exact ae af 1 J J J J J) | refine aK rfl (av J J J J ⟨J, trivial⟩ rfl (by kernel_rfl)) (fun w hm => fQ ⟨_, _, _⟩ w) J J ?_ | (refine aV J J J J J J ?_; intro g) | (refine aG af J J J J J J ?_; intro g) | refine aj af 0 J J J J J J J J J J J J ?_ | refine aj af 1 J J J J J J J J J J J J ?_ | refine dd rfl (fun h => ?_) (fun h => ?_))
  all_goals
    (refine aC af (fun _ => 0) J J ⟨J, trivial⟩ rfl fun w hm => ⟨?_, hm.below⟩)
  all_goals
    clear hm
    have w1 := fun h => IntWalk.i64_in (2 * c) h
    have w2 := fun h => IntWalk.i64_in (b + c) h
    unfold CL bl at *
    grind
set_option maxRecDepth 100000 in
set_option maxHeartbeats 8000000 in
theorem xq (x : bj) (u : Int) (w : World) (hu : 0 ≤ u ∧ u ≤ 4611686018427387904) (hh : 0 ≤ x.held ∧ x.held ≤ 4611686018427387904) : Calls Tryz.prog 163 #[.agg #[.int .i64 x.size, .int .i64 x.left, .int .i64 x.held], .int .i64 u] w fun e w' => e = .returned (.int .i64 (bI x u)) ∧ Below w.heap.size w w' := by
  refine aQ Tryz.func163 rfl Tryz.ntmps163 J J ?_
  repeat' (first | refine ai ?_ | refine aa ?_ | refine ab ?_ | refine ag ?_ | (refine aV J J J J J J ?_; intro g2) | ((refine' am rfl ?_ J J ?_); rotate_left; first | exact ak af J J J J | exact aq af J J J J J J))
  by_cases h0 : u = 0
  · refine aB rfl (by simpa using h0) ?_
    repeat' (first | refine ai ?_ | refine aa ?_ | refine ab ?_ | refine aA ?_ | refine au ?_ | refine ag ?_ | ((refine' am rfl ?_ J J ?_); rotate_left; first | exact ak af J J J J | exact ae af 0 J J J J J))
    refine aC af (fun _ => 0) J J trivial rfl fun w hm => ⟨?_, hm.below⟩
    rw [bI, if_pos h0]
  · refine ar rfl (by simpa using h0) ?_
    repeat' (first | refine ai ?_ | refine aa ?_ | refine ab ?_ | refine aA ?_ | refine ay ?_ | refine ag ?_ | (refine aG af J J J J J J ?_; intro g5) | ((refine' am rfl ?_ J J ?_); rotate_left; first | exact rd J J J J J (by omega) | exact ak af J J J J | exact ae af 0 J J J J J) | refine aK rfl (av J J J J ⟨J, trivial⟩ rfl (by kernel_rfl)) (fun w hm => zk x.size x.left (x.held - u) w) J J ?_ | refine aj af 0 J J J J J J J J J J J J ?_)
    refine aC af (fun _ => 0) J J trivial rfl fun w hm => ⟨?_, hm.below⟩
    rw [bI, if_neg h0, ← DT]
set_option maxRecDepth 100000 in
set_option maxHeartbeats 16000000 in
theorem zl {A : Nat → Prop} (v : KV) (w : World) (hO : Rws A w 4 fC v.o v.k.ob) (hzo : v.k.ob.length ≤ 3518437208883) (htx : v.k.st.text.size ≤ 4611686018427387900) (hfd : ∀ f ∈ v.k.ob, f.data.size < 4294967281) (hg : MLen w) : Calls Tryz.prog 139 #[.agg #[.int .i64 v.k.st.id, .int .i64 v.k.st.side, .int .i64 v.k.st.shape, .int .i64 v.k.st.sent, .int .i64 v.k.st.got, .bool v.k.st.se, .bool v.k.st.ge, .bool v.k.st.done, .int .i64 v.k.st.code, .string v.k.st.text, .int .i64 v.k.st.snd.size, .int .i64 v.k.st.snd.left, .int .i64 v.k.st.snd.held, .int .i64 v.k.st.rcv.size, .int .i64 v.k.st.rcv.left, .int .i64 v.k.st.rcv.held, .string v.k.sv, .string v.k.mt, .int .i64 v.k.lt, .slice v.m v.k.ms.length v.mc, .slice v.i v.k.ib.length v.ic, .slice v.o v.k.ob.length v.oc]] w fun e w' => e = .returned (.tuple #[.agg ⟨tC (cy v.k.ob v.k.st).st⟩, .int .i64 (cy v.k.ob v.k.st).err]) ∧ Below w.heap.size w w' := by
  refine aQ Tryz.func139 rfl Tryz.ntmps139 J J ?_
  refine ai ?_
  refine aa ?_
  (refine aV J J J J J J ?_; intro g1)
  (refine aG af J J J J J J ?_; intro g2)
  repeat' (first | refine ai ?_ | refine aa ?_ | refine ab ?_ | refine aJ ?_ | refine ag ?_ | (refine aG af J J J J J J ?_; intro g4) | ((refine' am rfl ?_ J J ?_); rotate_left; first | exact ak af J J J J | exact ae af 1 J J J J J | exact ae af 2 J J J J J | exact bh af J J J J J J J) | refine aj af 0 J J J J J J J J J J J J ?_)
  refine cK (σ := Nat × cx) (fun p => p.1 ≤ v.k.ob.length ∧ p.2.text.size ≤ 4611686018427387900 ∧ cy v.k.ob v.k.st = cy (v.k.ob.drop p.1) p.2) (fun p => [(14, [], .int .i64 ((p.1 : Nat) : Int)), (13, [], .int .i64 ((v.k.ob.length : Nat) : Int)), (12, [], .slice v.o v.k.ob.length v.oc), (4, [], .pointer (some ⟨g4, 0, none⟩)), (2, [], .pointer (some ⟨g2, 0, none⟩))]) (fun p => [.cl g4 33 (tC p.2), .cl g2 33 [.int .i64 0, .int .i64 0, .int .i64 0, .int .i64 0, .int .i64 0, .bool false, .bool false, .bool false, .int .i64 0, .string ⟨#[]⟩, .int .i64 0, .int .i64 0, .int .i64 0, .int .i64 0, .int .i64 0, .int .i64 0]]) (fun p => v.k.ob.length - p.1) (0, v.k.st) [true, true, false] ⟨Nat.zero_le _, htx, rfl⟩ ⟨J, J, J, J, J, trivial⟩ rfl ?_
  rintro ⟨j, s⟩ ⟨hj0, hs0, hr⟩
  dsimp only at hj0 hs0 hr ⊢
  by_cases hj : j < v.k.ob.length
  · obtain ⟨f, hf⟩ : ∃ f, v.k.ob[j]? = some f := ⟨v.k.ob[j], List.getElem?_eq_getElem hj⟩
    obtain ⟨bb, off, hx, _, _, hrows⟩ := hO (by omega)
    have hrow : w.rangeAt bb (off + j * 4) (fC f) := hrows j f hf
    have hfd0 := hfd f (List.mem_of_getElem? hf)
    obtain ⟨r, hr0⟩ : ∃ r, bD (gy s) f = r := ⟨_, rfl⟩
    have hrt : r.st.text.size ≤ 4611686018427387900 := by rw [← hr0]; exact oY hs0 hfd0
    rw [eJ hf, cy, hr0] at hr
    rw [hx]
    repeat' (first | refine ai ?_ | refine aa ?_ | refine ab ?_ | refine ag ?_ | ((refine' am rfl ?_ J J ?_); rotate_left; exact aq af J J J J J J))
    refine aB rfl (by simp; omega) ?_
    repeat' (first | refine ai ?_ | refine aa ?_ | refine ab ?_ | refine ay ?_ | refine aJ ?_ | refine ag ?_ | (refine aG af J J J J J J ?_; intro g6) | ((refine' am rfl ?_ J J ?_); rotate_left; first | exact cm af (m := 4) j J J J J J J J J (fun _ => rfl) (fun _ => hj) | exact dC af (cs := fC f) J J J J J (fun _ => hrow) | exact ak af J J J J | exact aq af J J J J J J | exact ae af 0 J J J J J | exact ae af 1 J J J J J) | refine aK rfl (av J J J J ⟨J, J, trivial⟩ rfl (by kernel_rfl)) (fun w hm => wd (gy s) f r hr0 w hs0 hfd0 (hg.below hm.below)) J J ?_ | refine aj af 0 J J J J J J J J J J J J ?_ | refine aj af 1 J J J J J J J J J J J J ?_)
    by_cases he : r.err = 0
    · rw [if_neg (by simpa using he)] at hr
      refine ar rfl (by simpa using he) ?_
      repeat' (first | refine aa ?_ | refine ab ?_ | refine ay ?_ | refine ax ?_ | refine ag ?_ | ((refine' am rfl ?_ J J ?_); rotate_left; first | exact bN J J J J J (by omega) | exact ak af J J J J | exact ae af 0 J J J J J) | refine aj af 2 J J J J J J J J J J J J ?_)
      refine bA (j + 1, r.st) [false, false, true, true] ⟨hj, hrt, hr⟩ (show v.k.ob.length - (j + 1) < v.k.ob.length - j by omega) ⟨J, J, J, J, J, trivial⟩ rfl
    · rw [if_pos (by simpa using he)] at hr
      refine aB rfl (by simpa using he) ?_
      repeat' (first | refine ai ?_ | refine aa ?_ | refine ab ?_ | refine aA ?_ | refine au ?_ | refine ba ?_ | refine ag ?_ | ((refine' am rfl ?_ J J ?_); rotate_left; first | exact ak af J J J J | exact ae af 2 J J J J J) | refine aj af 3 J J J J J J J J J J J J ?_)
      (refine aC af (fun _ => 3) J J ⟨J, trivial⟩ rfl fun w1 hm => ⟨?_, hm.below⟩)
      rw [hr]
      rfl
  · rw [List.drop_eq_nil_of_le (by omega), cy] at hr
    repeat' (first | refine ai ?_ | refine aa ?_ | refine ab ?_ | refine ag ?_ | ((refine' am rfl ?_ J J ?_); rotate_left; exact aq af J J J J J J))
    refine ar rfl (by simp; omega) ?_
    repeat' (first | refine ai ?_ | refine aa ?_ | refine ab ?_ | refine aA ?_ | refine bq ?_ | refine aN ?_ | refine aT ?_ | refine ag ?_ | ((refine' am rfl ?_ J J ?_); rotate_left; first | exact ak af J J J J | exact ae af 0 J J J J J) | refine aj af 0 J J J J J J J J J J J J ?_ | refine aj af 1 J J J J J J J J J J J J ?_)
    (refine aC af (fun _ => 1) J J ⟨J, trivial⟩ rfl fun w1 hm => ⟨?_, hm.below⟩)
    rw [hr]
    rfl
end Go.Proofs.YthiocbcokfondaaGreatDoor.Y
