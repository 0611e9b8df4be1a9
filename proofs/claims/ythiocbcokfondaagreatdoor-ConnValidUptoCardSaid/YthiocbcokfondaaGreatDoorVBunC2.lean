/- Texts of this claim merged into one: VCn2, VCn4. -/
import Derived.Test.YthiocbcokfondaaGreatDoorVBunE
import Derived.Test.YthiocbcokfondaaGreatDoorVStr3Y
namespace Go.Proofs.YthiocbcokfondaaGreatDoor.Y
open Go.RowKit
attribute [local irreducible] Calls
def xX : Option Nat → Int
  | some k => k
  | none => -1
theorem l6 : ∀ (l : List ByteArray) (s : ByteArray), ce (l ++ [s]) = ce l + bE s
  | [], s => by simp [ce]
  | a :: l, s => by rw [List.cons_append, ce, l6 l s, ce]; omega
theorem jy (s : ByteArray) : 1 ≤ bE s := by unfold bE; split <;> omega
theorem fS : ∀ l : List ByteArray, 0 ≤ ce l
  | [] => Int.le_refl _
  | a :: l => by have := fS l; have := jy a; rw [ce]; omega
theorem l7 {l : List ByteArray} {j : Nat} {s : ByteArray} (h : l[j]? = some s) : ce (l.take (j + 1)) = ce (l.take j) + bE s := by rw [fy h, l6]
theorem mM : ∀ (l : List ByteArray) (j : Nat), ce (l.take j) ≤ ce l
  | [], j => by simp
  | a :: l, 0 => by have := fS (a :: l); simpa [ce] using this
  | a :: l, j + 1 => by have := mM l j; rw [List.take_succ_cons, ce, ce]; omega
theorem l8 : ∀ (l : List KR) (k : KR), cL (l ++ [k]) = cL l + ce k.ib
  | [], s => by simp [cL]
  | a :: l, s => by rw [List.cons_append, cL, l8 l s, cL]; omega
theorem jZ : ∀ l : List KR, 0 ≤ cL l
  | [] => Int.le_refl _
  | a :: l => by have := jZ l; have := fS a.ib; rw [cL]; omega
theorem l9 {l : List KR} {j : Nat} {s : KR} (h : l[j]? = some s) : cL (l.take (j + 1)) = cL (l.take j) + ce s.ib := by rw [fy h, l8]
theorem mN : ∀ (l : List KR) (j : Nat), cL (l.take j) ≤ cL l
  | [], j => by simp
  | a :: l, 0 => by have := jZ (a :: l); simpa [cL] using this
  | a :: l, j + 1 => by have := mN l j; rw [List.take_succ_cons, cL, cL]; omega
theorem qS {l : List KR} {j : Nat} {s : KR} (h : l[j]? = some s) : dw (l.take (j + 1)) = dw (l.take j) + if s.st.done = true then 0 else 1 := by
  unfold dw
  rw [fy h, List.countP_append]
  cases hd : s.st.done <;> simp [hd]
theorem u5 (l : List KR) (j : Nat) : dw (l.take j) ≤ l.length := Nat.le_trans List.countP_le_length (by rw [List.length_take]; omega)
theorem sU {w0 w : World} {M : List Ent} {g : Nat} {T : TypeId} {v : Value} {r : List Value} (i : Nat) (hM : Mem w0 w M) (h : dC M i = some (.cl g T (v :: r))) : w.cell? ⟨g, 0, none⟩ = some v := by
  have hb : Bk w g T ⟨v :: r⟩ := (hM.2.get (i := i) h).2
  exact hb.at_ 0 rfl
set_option maxRecDepth 100000 in
set_option maxHeartbeats 8000000 in
theorem sV (u : KV) (id : Int) (g : Nat) (w : World) (hc : w.cell? ⟨g, 0, none⟩ = some (.int .i64 id)) : Calls Tryz.prog 89 #[.agg #[.int .i64 u.k.st.id, .int .i64 u.k.st.side, .int .i64 u.k.st.shape, .int .i64 u.k.st.sent, .int .i64 u.k.st.got, .bool u.k.st.se, .bool u.k.st.ge, .bool u.k.st.done, .int .i64 u.k.st.code, .string u.k.st.text, .int .i64 u.k.st.snd.size, .int .i64 u.k.st.snd.left, .int .i64 u.k.st.snd.held, .int .i64 u.k.st.rcv.size, .int .i64 u.k.st.rcv.left, .int .i64 u.k.st.rcv.held, .string u.k.sv, .string u.k.mt, .int .i64 u.k.lt, .slice u.m u.k.ms.length u.mc, .slice u.i u.k.ib.length u.ic, .slice u.o u.k.ob.length u.oc], .pointer (some ⟨g, 0, none⟩)] w fun e w' => e = .returned (.bool (u.k.st.id == id)) ∧ Below w.heap.size w w' := by
  refine aI Tryz.func89 rfl Tryz.ntmps89 J J ?_
  repeat' (first | refine ah ?_ | refine aa ?_ | refine ab ?_ | refine az ?_ | refine ae ?_ | ((refine' am rfl ?_ J J ?_); rotate_left; first | exact b8 af J J J J J (fun _ => hc) | exact ai af J J J J | exact ap af J J J J J J | exact ag af 0 J J J J J) | (refine aW J J J J J J ?_; intro g))
  refine ay af (fun _ => 0) J J trivial rfl fun w hm => ⟨?_, hm.below⟩
  rfl
set_option maxRecDepth 100000 in
set_option maxHeartbeats 8000000 in
theorem sW {A : Nat → Prop} (v : NV) (id : Int) (g : Nat) (w : World) (hc : w.cell? ⟨g, 0, none⟩ = some (.int .i64 id)) (hN : NOk A w v) (hzk : v.kv.length ≤ 606626243774) : Calls Tryz.prog 88 #[.slice v.x v.kv.length v.xc, .func (.func 89) #[] #[.pointer (some ⟨g, 0, none⟩)]] w fun e w' => e = .returned (.int .i64 (xX (dO id v.c.ks 0))) ∧ Below w.heap.size w w' := by
  refine aI Tryz.func88 rfl Tryz.ntmps88 J J ?_
  have hl := hN.lenk
  repeat' (first | refine ah ?_ | refine aa ?_ | refine ab ?_ | refine aK ?_ | refine ae ?_ | ((refine' am rfl ?_ J J ?_); rotate_left; first | exact ai af J J J J | exact aV af J J J J J J J))
  refine bu (σ := Nat) (fun p => p ≤ v.kv.length ∧ dO id v.c.ks 0 = dO id (v.c.ks.drop p) p) (fun p => [(8, [], .int .i64 ((p : Nat) : Int)), (7, [], .int .i64 ((v.kv.length : Nat) : Int)), (0, [], .slice v.x v.kv.length v.xc), (1, [], .func (.func 89) #[] #[.pointer (some ⟨g, 0, none⟩)])]) (fun _ => []) (fun p => v.kv.length - p) 0 [] ⟨Nat.zero_le _, rfl⟩ ⟨J, J, J, J, trivial⟩ rfl ?_
  rintro j ⟨hj0, hr⟩
  by_cases hj : j < v.kv.length
  · skip
    obtain ⟨u, hu0⟩ : ∃ u, v.kv[j]? = some u := ⟨v.kv[j], List.getElem?_eq_getElem hj⟩
    obtain ⟨bb, off, hx, _, _, hrows⟩ := hN.ks (by omega)
    have hrow : w.rangeAt bb (off + j * 22) (KC u) := hrows j u hu0
    have hq : v.c.ks[j]? = some u.k := by rw [hN.eq, List.getElem?_map, hu0]; rfl
    rw [cz hq, dO] at hr
    rw [hx]
    repeat' (first | refine ah ?_ | refine aa ?_ | refine ab ?_ | refine ae ?_ | ((refine' am rfl ?_ J J ?_); rotate_left; exact ap af J J J J J J))
    refine aF rfl (by simp; omega) ?_
    repeat' (first | refine ah ?_ | refine aa ?_ | refine ab ?_ | refine ar ?_ | refine aK ?_ | refine ae ?_ | ((refine' am rfl ?_ J J ?_); rotate_left; first | exact cM af (m := 22) j J J J J J J J J (fun _ => rfl) (fun _ => hj) | exact bg af (cs := KC u) J J J J J (fun _ => hrow) | exact ai af J J J J) | refine aH rfl (av J J J J ⟨J, trivial⟩ rfl (by kernel_rfl)) (fun w hm => sV u id g w ((hm.below.cell (block_lt_of_cell hc)).trans hc)) J J ?_)
    by_cases hh : u.k.st.id = id
    · rw [if_pos hh] at hr
      refine aF rfl (by simpa using hh) ?_
      repeat' (first | refine ah ?_ | refine aa ?_ | refine ab ?_ | refine az ?_ | refine ak ?_ | refine a7 ?_ | refine ae ?_ | ((refine' am rfl ?_ J J ?_); rotate_left; exact ai af J J J J))
      refine ay af (fun _ => 0) J J trivial rfl fun w hm => ⟨?_, hm.below⟩
      rw [hr]; rfl
    · rw [if_neg hh] at hr
      refine au rfl (by simpa using hh) ?_
      repeat' (first | refine aa ?_ | refine ab ?_ | refine ar ?_ | refine aE ?_ | refine ae ?_ | ((refine' am rfl ?_ J J ?_); rotate_left; first | exact bz J J J J J (by omega) | exact ai af J J J J))
      refine a8 (j + 1) [] ⟨hj, hr⟩ (show v.kv.length - (j + 1) < v.kv.length - j by omega) ⟨J, J, J, J, trivial⟩ rfl
  · rw [List.drop_eq_nil_of_le (by omega)] at hr
    repeat' (first | refine ah ?_ | refine aa ?_ | refine ab ?_ | refine ae ?_ | ((refine' am rfl ?_ J J ?_); rotate_left; exact ap af J J J J J J))
    refine au rfl (by simp; omega) ?_
    repeat' (first | refine ah ?_ | refine aa ?_ | refine ab ?_ | refine az ?_ | refine bj ?_ | refine aO ?_ | refine aU ?_ | refine ae ?_ | ((refine' am rfl ?_ J J ?_); rotate_left; exact ai af J J J J))
    refine ay af (fun _ => 0) J J trivial rfl fun w hm => ⟨?_, hm.below⟩
    rw [hr]; rfl
set_option maxRecDepth 100000 in
set_option maxHeartbeats 8000000 in
theorem u6 {A : Nat → Prop} (v : NV) (id : Int) (w : World) (hN : NOk A w v) (hzk : v.kv.length ≤ 606626243774) : Calls Tryz.prog 37 #[.agg #[.int .i64 v.c.sd, .int .i64 v.c.nx, .int .i64 v.c.la, .int .i64 v.c.aw, .int .i64 v.c.sz, .int .i64 v.c.sw.size, .int .i64 v.c.sw.left, .int .i64 v.c.sw.held, .int .i64 v.c.rw.size, .int .i64 v.c.rw.left, .int .i64 v.c.rw.held, .slice v.x v.kv.length v.xc, .slice v.o v.c.ou.length v.oc, .slice v.p v.c.pg.length v.pc, .bool v.c.cl], .int .i64 id] w fun e w' => e = .returned (.int .i64 (xX (dO id v.c.ks 0))) ∧ Below w.heap.size w w' := by
  refine aI Tryz.func37 rfl Tryz.ntmps37 J J ?_
  repeat' (first | refine ah ?_ | refine aa ?_ | refine ab ?_ | refine az ?_ | refine ae ?_ | (refine aW J J J J J J ?_; intro g1) | ((refine' am rfl ?_ J J ?_); rotate_left; first | exact rP J J trivial rfl ⟨J, trivial⟩ | exact ai af J J J J | exact ag af 1 J J J J J) | refine aH rfl (av J J J J ⟨J, J, trivial⟩ rfl (by kernel_rfl)) (fun w hm => sW v id _ w (sU 0 hm rfl) (hN.below hm.below) hzk) J J ?_)
  refine ay af (fun _ => 0) J J trivial rfl fun w hm => ⟨?_, hm.below⟩
  rfl
set_option maxRecDepth 100000 in
set_option maxHeartbeats 8000000 in
theorem sX {A : Nat → Prop} (v : NV) (id : Int) (w : World) (hN : NOk A w v) (hzk : v.kv.length ≤ 606626243774) : Calls Tryz.prog 39 #[.agg #[.int .i64 v.c.sd, .int .i64 v.c.nx, .int .i64 v.c.la, .int .i64 v.c.aw, .int .i64 v.c.sz, .int .i64 v.c.sw.size, .int .i64 v.c.sw.left, .int .i64 v.c.sw.held, .int .i64 v.c.rw.size, .int .i64 v.c.rw.left, .int .i64 v.c.rw.held, .slice v.x v.kv.length v.xc, .slice v.o v.c.ou.length v.oc, .slice v.p v.c.pg.length v.pc, .bool v.c.cl], .int .i64 id] w fun e w' => e = .returned (.int .i64 (xX (dO id v.c.ks 0))) ∧ Below w.heap.size w w' := by
  refine aI Tryz.func39 rfl Tryz.ntmps39 J J ?_
  have hl := hN.lenk
  repeat' (first | refine ah ?_ | refine aa ?_ | refine ab ?_ | refine aK ?_ | refine ae ?_ | (refine aW J J J J J J ?_; intro g2) | ((refine' am rfl ?_ J J ?_); rotate_left; exact ai af J J J J))
  refine bu (σ := Nat) (fun p => p ≤ v.kv.length ∧ dO id v.c.ks 0 = dO id (v.c.ks.drop p) p) (fun p => [(5, [], .int .i64 ((p : Nat) : Int)), (2, [], .pointer (some ⟨g2, 0, none⟩)), (1, [], .int .i64 id)]) (fun _ => [.cl g2 28 [.int .i64 v.c.sd, .int .i64 v.c.nx, .int .i64 v.c.la, .int .i64 v.c.aw, .int .i64 v.c.sz, .int .i64 v.c.sw.size, .int .i64 v.c.sw.left, .int .i64 v.c.sw.held, .int .i64 v.c.rw.size, .int .i64 v.c.rw.left, .int .i64 v.c.rw.held, .slice v.x v.kv.length v.xc, .slice v.o v.c.ou.length v.oc, .slice v.p v.c.pg.length v.pc, .bool v.c.cl]]) (fun p => v.kv.length - p) 0 [true] ⟨Nat.zero_le _, rfl⟩ ⟨J, J, J, trivial⟩ rfl ?_
  rintro j ⟨hj0, hr⟩
  by_cases hj : j < v.kv.length
  · skip
    obtain ⟨u, hu0⟩ : ∃ u, v.kv[j]? = some u := ⟨v.kv[j], List.getElem?_eq_getElem hj⟩
    obtain ⟨bb, off, hx, _, _, hrows⟩ := hN.ks (by omega)
    have hrow : w.rangeAt bb (off + j * 22) (KC u) := hrows j u hu0
    have hq : v.c.ks[j]? = some u.k := by rw [hN.eq, List.getElem?_map, hu0]; rfl
    rw [cz hq, dO] at hr
    rw [hx]
    repeat' (first | refine ah ?_ | refine aa ?_ | refine ab ?_ | refine ae ?_ | ((refine' am rfl ?_ J J ?_); rotate_left; first | exact ai af J J J J | exact ap af J J J J J J | exact ag af 0 J J J J J | exact aV af J J J J J J J))
    refine aF rfl (by simp; omega) ?_
    repeat' (first | refine ah ?_ | refine aa ?_ | refine ab ?_ | refine ar ?_ | refine aK ?_ | refine ae ?_ | ((refine' am rfl ?_ J J ?_); rotate_left; first | exact cM af (m := 22) j J J J J J J J J (fun _ => rfl) (fun _ => hj) | exact b8 af (v := .int .i64 u.k.st.id) J J J J J (fun _ => hrow 0 _ rfl) | exact ai af J J J J | exact ap af J J J J J J | exact ag af 0 J J J J J))
    by_cases hh : u.k.st.id = id
    · rw [if_pos hh] at hr
      refine aF rfl (by simpa using hh) ?_
      repeat' (first | refine ah ?_ | refine aa ?_ | refine ab ?_ | refine az ?_ | refine ak ?_ | refine a7 ?_ | refine ae ?_ | ((refine' am rfl ?_ J J ?_); rotate_left; exact ai af J J J J))
      refine ay af (fun _ => 0) J J trivial rfl fun w hm => ⟨?_, hm.below⟩
      rw [hr]; rfl
    · rw [if_neg hh] at hr
      refine au rfl (by simpa using hh) ?_
      repeat' (first | refine aa ?_ | refine ab ?_ | refine ar ?_ | refine aE ?_ | refine ae ?_ | ((refine' am rfl ?_ J J ?_); rotate_left; first | exact bz J J J J J (by omega) | exact ai af J J J J))
      refine a8 (j + 1) [true] ⟨hj, hr⟩ (show v.kv.length - (j + 1) < v.kv.length - j by omega) ⟨J, J, J, trivial⟩ rfl
  · rw [List.drop_eq_nil_of_le (by omega)] at hr
    repeat' (first | refine ah ?_ | refine aa ?_ | refine ab ?_ | refine ae ?_ | ((refine' am rfl ?_ J J ?_); rotate_left; first | exact ai af J J J J | exact ap af J J J J J J | exact ag af 0 J J J J J | exact aV af J J J J J J J))
    refine au rfl (by simp; omega) ?_
    repeat' (first | refine ah ?_ | refine aa ?_ | refine ab ?_ | refine az ?_ | refine bj ?_ | refine aO ?_ | refine aU ?_ | refine ae ?_ | ((refine' am rfl ?_ J J ?_); rotate_left; exact ai af J J J J))
    refine ay af (fun _ => 0) J J trivial rfl fun w hm => ⟨?_, hm.below⟩
    rw [hr]; rfl
set_option maxRecDepth 100000 in
set_option maxHeartbeats 8000000 in
theorem nO {A : Nat → Prop} (v : KV) (w : World) (hI : Rws A w 1 sC v.i v.k.ib) (hub : ce v.k.ib ≤ 4611686018427387904) (hzi : v.k.ib.length ≤ 8796093022208) : Calls Tryz.prog 78 #[.agg #[.int .i64 v.k.st.id, .int .i64 v.k.st.side, .int .i64 v.k.st.shape, .int .i64 v.k.st.sent, .int .i64 v.k.st.got, .bool v.k.st.se, .bool v.k.st.ge, .bool v.k.st.done, .int .i64 v.k.st.code, .string v.k.st.text, .int .i64 v.k.st.snd.size, .int .i64 v.k.st.snd.left, .int .i64 v.k.st.snd.held, .int .i64 v.k.st.rcv.size, .int .i64 v.k.st.rcv.left, .int .i64 v.k.st.rcv.held, .string v.k.sv, .string v.k.mt, .int .i64 v.k.lt, .slice v.m v.k.ms.length v.mc, .slice v.i v.k.ib.length v.ic, .slice v.o v.k.ob.length v.oc]] w fun e w' => e = .returned (.int .i64 (ce v.k.ib)) ∧ Below w.heap.size w w' := by
  refine aI Tryz.func78 rfl Tryz.ntmps78 J J ?_
  repeat' (first | refine ah ?_ | refine aa ?_ | refine ab ?_ | refine aK ?_ | refine ae ?_ | (refine aW J J J J J J ?_; intro g1) | ((refine' am rfl ?_ J J ?_); rotate_left; first | exact ai af J J J J | exact ag af 0 J J J J J | exact aV af J J J J J J J))
  refine bu (σ := Nat) (fun p => p ≤ v.k.ib.length) (fun p => [(9, [], .int .i64 ((p : Nat) : Int)), (8, [], .int .i64 ((v.k.ib.length : Nat) : Int)), (7, [], .slice v.i v.k.ib.length v.ic), (3, [], .int .i64 (ce (v.k.ib.take p)))]) (fun _ => [.cl g1 39 [.int .i64 v.k.st.id, .int .i64 v.k.st.side, .int .i64 v.k.st.shape, .int .i64 v.k.st.sent, .int .i64 v.k.st.got, .bool v.k.st.se, .bool v.k.st.ge, .bool v.k.st.done, .int .i64 v.k.st.code, .string v.k.st.text, .int .i64 v.k.st.snd.size, .int .i64 v.k.st.snd.left, .int .i64 v.k.st.snd.held, .int .i64 v.k.st.rcv.size, .int .i64 v.k.st.rcv.left, .int .i64 v.k.st.rcv.held, .string v.k.sv, .string v.k.mt, .int .i64 v.k.lt, .slice v.m v.k.ms.length v.mc, .slice v.i v.k.ib.length v.ic, .slice v.o v.k.ob.length v.oc]]) (fun p => v.k.ib.length - p) 0 [true] (Nat.zero_le _) ⟨J, J, J, J, trivial⟩ rfl ?_
  intro j hj0
  by_cases hj : j < v.k.ib.length
  · skip
    obtain ⟨s, hs⟩ : ∃ s, v.k.ib[j]? = some s := ⟨v.k.ib[j], List.getElem?_eq_getElem hj⟩
    obtain ⟨bb, off, hx, _, _, hrows⟩ := hI (by omega)
    have hrow : w.rangeAt bb (off + j * 1) (sC s) := hrows j s hs
    have hun := l7 hs
    have hue := mM v.k.ib (j + 1)
    have hu1 := fS (v.k.ib.take j)
    have hco := jy s
    rw [hx]
    repeat' (first | refine ah ?_ | refine aa ?_ | refine ab ?_ | refine ae ?_ | ((refine' am rfl ?_ J J ?_); rotate_left; exact ap af J J J J J J))
    refine aF rfl (by simp; omega) ?_
    repeat' (first | refine ah ?_ | refine aa ?_ | refine ab ?_ | refine ar ?_ | refine aK ?_ | refine aE ?_ | refine ae ?_ | ((refine' am rfl ?_ J J ?_); rotate_left; first | exact cM af (m := 1) j J J J J J J J J (fun _ => rfl) (fun _ => hj) | exact b8 af (v := .string s) J J J J J (fun _ => hrow 0 _ rfl) | exact bz J J J J J (by omega) | exact ai af J J J J) | refine aH rfl (av J J J J ⟨J, trivial⟩ rfl (by kernel_rfl)) (fun w hm => gz s w) J J ?_)
    rw [← hun]
    refine a8 (j + 1) [true] hj (show v.k.ib.length - (j + 1) < v.k.ib.length - j by omega) ⟨J, J, J, J, trivial⟩ rfl
  · have hjl : j = v.k.ib.length := by omega
    subst hjl
    repeat' (first | refine ah ?_ | refine aa ?_ | refine ab ?_ | refine ae ?_ | ((refine' am rfl ?_ J J ?_); rotate_left; exact ap af J J J J J J))
    refine au rfl (by simp) ?_
    repeat' (first | refine ah ?_ | refine aa ?_ | refine ab ?_ | refine az ?_ | refine bj ?_ | refine aO ?_ | refine aU ?_ | refine ae ?_ | ((refine' am rfl ?_ J J ?_); rotate_left; exact ai af J J J J))
    refine ay af (fun _ => 0) J J trivial rfl fun w hm => ⟨?_, hm.below⟩
    rw [List.take_length]
set_option maxRecDepth 100000 in
set_option maxHeartbeats 8000000 in
theorem ma {A : Nat → Prop} (v : KV) (w : World) (hI : Rws A w 1 sC v.i v.k.ib) (hub : ce v.k.ib ≤ 4611686018427387904) (hzi : v.k.ib.length ≤ 8796093022208) : Calls Tryz.prog 82 #[.agg #[.int .i64 v.k.st.id, .int .i64 v.k.st.side, .int .i64 v.k.st.shape, .int .i64 v.k.st.sent, .int .i64 v.k.st.got, .bool v.k.st.se, .bool v.k.st.ge, .bool v.k.st.done, .int .i64 v.k.st.code, .string v.k.st.text, .int .i64 v.k.st.snd.size, .int .i64 v.k.st.snd.left, .int .i64 v.k.st.snd.held, .int .i64 v.k.st.rcv.size, .int .i64 v.k.st.rcv.left, .int .i64 v.k.st.rcv.held, .string v.k.sv, .string v.k.mt, .int .i64 v.k.lt, .slice v.m v.k.ms.length v.mc, .slice v.i v.k.ib.length v.ic, .slice v.o v.k.ob.length v.oc]] w fun e w' => e = .returned (.int .i64 (ce v.k.ib)) ∧ Below w.heap.size w w' := by
  refine aI Tryz.func82 rfl Tryz.ntmps82 J J ?_
  repeat' (first | refine ah ?_ | refine aa ?_ | refine ab ?_ | refine aK ?_ | refine ae ?_ | (refine aW J J J J J J ?_; intro g1) | ((refine' am rfl ?_ J J ?_); rotate_left; exact ai af J J J J))
  refine bu (σ := Nat) (fun p => p ≤ v.k.ib.length) (fun p => [(4, [], .int .i64 ((p : Nat) : Int)), (1, [], .pointer (some ⟨g1, 0, none⟩)), (3, [], .int .i64 (ce (v.k.ib.take p)))]) (fun _ => [.cl g1 39 [.int .i64 v.k.st.id, .int .i64 v.k.st.side, .int .i64 v.k.st.shape, .int .i64 v.k.st.sent, .int .i64 v.k.st.got, .bool v.k.st.se, .bool v.k.st.ge, .bool v.k.st.done, .int .i64 v.k.st.code, .string v.k.st.text, .int .i64 v.k.st.snd.size, .int .i64 v.k.st.snd.left, .int .i64 v.k.st.snd.held, .int .i64 v.k.st.rcv.size, .int .i64 v.k.st.rcv.left, .int .i64 v.k.st.rcv.held, .string v.k.sv, .string v.k.mt, .int .i64 v.k.lt, .slice v.m v.k.ms.length v.mc, .slice v.i v.k.ib.length v.ic, .slice v.o v.k.ob.length v.oc]]) (fun p => v.k.ib.length - p) 0 [true] (Nat.zero_le _) ⟨J, J, J, trivial⟩ rfl ?_
  intro j hj0
  by_cases hj : j < v.k.ib.length
  · skip
    obtain ⟨s, hs⟩ : ∃ s, v.k.ib[j]? = some s := ⟨v.k.ib[j], List.getElem?_eq_getElem hj⟩
    obtain ⟨bb, off, hx, _, _, hrows⟩ := hI (by omega)
    have hrow : w.rangeAt bb (off + j * 1) (sC s) := hrows j s hs
    have hun := l7 hs
    have hue := mM v.k.ib (j + 1)
    have hu1 := fS (v.k.ib.take j)
    have hco := jy s
    rw [hx]
    repeat' (first | refine ah ?_ | refine aa ?_ | refine ab ?_ | refine ae ?_ | ((refine' am rfl ?_ J J ?_); rotate_left; first | exact ai af J J J J | exact ap af J J J J J J | exact ag af 0 J J J J J | exact aV af J J J J J J J))
    refine aF rfl (by simp; omega) ?_
    repeat' (first | refine ah ?_ | refine aa ?_ | refine ab ?_ | refine ar ?_ | refine aK ?_ | refine aE ?_ | refine ae ?_ | ((refine' am rfl ?_ J J ?_); rotate_left; first | exact cM af (m := 1) j J J J J J J J J (fun _ => rfl) (fun _ => hj) | exact b8 af (v := .string s) J J J J J (fun _ => hrow 0 _ rfl) | exact bz J J J J J (by omega) | exact ai af J J J J | exact ag af 0 J J J J J) | refine aH rfl (av J J J J ⟨J, trivial⟩ rfl (by kernel_rfl)) (fun w hm => jx s w) J J ?_)
    rw [← hun]
    refine a8 (j + 1) [true] hj (show v.k.ib.length - (j + 1) < v.k.ib.length - j by omega) ⟨J, J, J, trivial⟩ rfl
  · have hjl : j = v.k.ib.length := by omega
    subst hjl
    repeat' (first | refine ah ?_ | refine aa ?_ | refine ab ?_ | refine ae ?_ | ((refine' am rfl ?_ J J ?_); rotate_left; first | exact ai af J J J J | exact ap af J J J J J J | exact ag af 0 J J J J J | exact aV af J J J J J J J))
    refine au rfl (by simp) ?_
    repeat' (first | refine ah ?_ | refine aa ?_ | refine ab ?_ | refine az ?_ | refine bj ?_ | refine aO ?_ | refine aU ?_ | refine ae ?_ | ((refine' am rfl ?_ J J ?_); rotate_left; exact ai af J J J J))
    refine ay af (fun _ => 0) J J trivial rfl fun w hm => ⟨?_, hm.below⟩
    rw [List.take_length]
set_option maxRecDepth 100000 in
set_option maxHeartbeats 8000000 in
theorem sY {A : Nat → Prop} (v : NV) (w : World) (hN : NOk A w v) (hzk : v.kv.length ≤ 606626243774) (htb : cL v.c.ks ≤ 4611686018427387904) (hzi : ∀ u ∈ v.kv, u.k.ib.length ≤ 8796093022208) : Calls Tryz.prog 31 #[.agg #[.int .i64 v.c.sd, .int .i64 v.c.nx, .int .i64 v.c.la, .int .i64 v.c.aw, .int .i64 v.c.sz, .int .i64 v.c.sw.size, .int .i64 v.c.sw.left, .int .i64 v.c.sw.held, .int .i64 v.c.rw.size, .int .i64 v.c.rw.left, .int .i64 v.c.rw.held, .slice v.x v.kv.length v.xc, .slice v.o v.c.ou.length v.oc, .slice v.p v.c.pg.length v.pc, .bool v.c.cl]] w fun e w' => e = .returned (.int .i64 (cL v.c.ks)) ∧ Below w.heap.size w w' := by
  refine aI Tryz.func31 rfl Tryz.ntmps31 J J ?_
  have hl := hN.lenk
  repeat' (first | refine ah ?_ | refine aa ?_ | refine ab ?_ | refine aK ?_ | refine ae ?_ | (refine aW J J J J J J ?_; intro g1) | ((refine' am rfl ?_ J J ?_); rotate_left; first | exact ai af J J J J | exact ag af 0 J J J J J | exact aV af J J J J J J J))
  refine bu (σ := Nat) (fun p => p ≤ v.kv.length) (fun p => [(9, [], .int .i64 ((p : Nat) : Int)), (8, [], .int .i64 ((v.kv.length : Nat) : Int)), (7, [], .slice v.x v.kv.length v.xc), (3, [], .int .i64 (cL (v.c.ks.take p)))]) (fun _ => [.cl g1 28 [.int .i64 v.c.sd, .int .i64 v.c.nx, .int .i64 v.c.la, .int .i64 v.c.aw, .int .i64 v.c.sz, .int .i64 v.c.sw.size, .int .i64 v.c.sw.left, .int .i64 v.c.sw.held, .int .i64 v.c.rw.size, .int .i64 v.c.rw.left, .int .i64 v.c.rw.held, .slice v.x v.kv.length v.xc, .slice v.o v.c.ou.length v.oc, .slice v.p v.c.pg.length v.pc, .bool v.c.cl]]) (fun p => v.kv.length - p) 0 [true] (Nat.zero_le _) ⟨J, J, J, J, trivial⟩ rfl ?_
  intro j hj0
  by_cases hj : j < v.kv.length
  · skip
    obtain ⟨u, hu0⟩ : ∃ u, v.kv[j]? = some u := ⟨v.kv[j], List.getElem?_eq_getElem hj⟩
    obtain ⟨bb, off, hx, _, _, hrows⟩ := hN.ks (by omega)
    have hrow : w.rangeAt bb (off + j * 22) (KC u) := hrows j u hu0
    have hq : v.c.ks[j]? = some u.k := by rw [hN.eq, List.getElem?_map, hu0]; rfl
    have hu := List.mem_of_getElem? hu0
    have hun := l9 hq
    have hue := mN v.c.ks (j + 1)
    have hu1 := jZ (v.c.ks.take j)
    have hu2 := fS u.k.ib
    rw [hx]
    repeat' (first | refine ah ?_ | refine aa ?_ | refine ab ?_ | refine ae ?_ | ((refine' am rfl ?_ J J ?_); rotate_left; exact ap af J J J J J J))
    refine aF rfl (by simp; omega) ?_
    repeat' (first | refine ah ?_ | refine aa ?_ | refine ab ?_ | refine ar ?_ | refine aK ?_ | refine aE ?_ | refine ae ?_ | (refine aN af J J J J J J ?_; intro g5) | ((refine' am rfl ?_ J J ?_); rotate_left; first | exact cM af (m := 22) j J J J J J J J J (fun _ => rfl) (fun _ => hj) | exact bg af (cs := KC u) J J J J J (fun _ => hrow) | exact bz J J J J J (by omega) | exact ai af J J J J | exact ag af 0 J J J J J) | refine aH rfl (av J J J J ⟨J, trivial⟩ rfl (by kernel_rfl)) (fun w hm => nO u w ((hN.ok u hu).2.1.below hm.below) (by omega) (hzi u hu)) J J ?_ | refine aq af 0 J J J J J J J J J J J J ?_)
    rw [← hun]
    refine a8 (j + 1) [false, true] hj (show v.kv.length - (j + 1) < v.kv.length - j by omega) ⟨J, J, J, J, trivial⟩ rfl
  · have hjl : j = v.kv.length := by omega
    subst hjl
    repeat' (first | refine ah ?_ | refine aa ?_ | refine ab ?_ | refine ae ?_ | ((refine' am rfl ?_ J J ?_); rotate_left; exact ap af J J J J J J))
    refine au rfl (by simp) ?_
    repeat' (first | refine ah ?_ | refine aa ?_ | refine ab ?_ | refine az ?_ | refine bj ?_ | refine aO ?_ | refine aU ?_ | refine ae ?_ | ((refine' am rfl ?_ J J ?_); rotate_left; exact ai af J J J J))
    refine ay af (fun _ => 0) J J trivial rfl fun w hm => ⟨?_, hm.below⟩
    rw [← hl, List.take_length]
set_option maxRecDepth 100000 in
set_option maxHeartbeats 8000000 in
theorem qT {A : Nat → Prop} (v : NV) (w : World) (hN : NOk A w v) (hzk : v.kv.length ≤ 606626243774) (htb : cL v.c.ks ≤ 4611686018427387904) (hzi : ∀ u ∈ v.kv, u.k.ib.length ≤ 8796093022208) : Calls Tryz.prog 36 #[.agg #[.int .i64 v.c.sd, .int .i64 v.c.nx, .int .i64 v.c.la, .int .i64 v.c.aw, .int .i64 v.c.sz, .int .i64 v.c.sw.size, .int .i64 v.c.sw.left, .int .i64 v.c.sw.held, .int .i64 v.c.rw.size, .int .i64 v.c.rw.left, .int .i64 v.c.rw.held, .slice v.x v.kv.length v.xc, .slice v.o v.c.ou.length v.oc, .slice v.p v.c.pg.length v.pc, .bool v.c.cl]] w fun e w' => e = .returned (.int .i64 (cL v.c.ks)) ∧ Below w.heap.size w w' := by
  refine aI Tryz.func36 rfl Tryz.ntmps36 J J ?_
  have hl := hN.lenk
  repeat' (first | refine ah ?_ | refine aa ?_ | refine ab ?_ | refine aK ?_ | refine ae ?_ | (refine aW J J J J J J ?_; intro g1) | ((refine' am rfl ?_ J J ?_); rotate_left; exact ai af J J J J))
  refine bu (σ := Nat) (fun p => p ≤ v.kv.length) (fun p => [(4, [], .int .i64 ((p : Nat) : Int)), (1, [], .pointer (some ⟨g1, 0, none⟩)), (3, [], .int .i64 (cL (v.c.ks.take p)))]) (fun _ => [.cl g1 28 [.int .i64 v.c.sd, .int .i64 v.c.nx, .int .i64 v.c.la, .int .i64 v.c.aw, .int .i64 v.c.sz, .int .i64 v.c.sw.size, .int .i64 v.c.sw.left, .int .i64 v.c.sw.held, .int .i64 v.c.rw.size, .int .i64 v.c.rw.left, .int .i64 v.c.rw.held, .slice v.x v.kv.length v.xc, .slice v.o v.c.ou.length v.oc, .slice v.p v.c.pg.length v.pc, .bool v.c.cl]]) (fun p => v.kv.length - p) 0 [true] (Nat.zero_le _) ⟨J, J, J, trivial⟩ rfl ?_
  intro j hj0
  by_cases hj : j < v.kv.length
  · skip
    obtain ⟨u, hu0⟩ : ∃ u, v.kv[j]? = some u := ⟨v.kv[j], List.getElem?_eq_getElem hj⟩
    obtain ⟨bb, off, hx, _, _, hrows⟩ := hN.ks (by omega)
    have hrow : w.rangeAt bb (off + j * 22) (KC u) := hrows j u hu0
    have hq : v.c.ks[j]? = some u.k := by rw [hN.eq, List.getElem?_map, hu0]; rfl
    have hu := List.mem_of_getElem? hu0
    have hun := l9 hq
    have hue := mN v.c.ks (j + 1)
    have hu1 := jZ (v.c.ks.take j)
    have hu2 := fS u.k.ib
    rw [hx]
    repeat' (first | refine ah ?_ | refine aa ?_ | refine ab ?_ | refine ae ?_ | ((refine' am rfl ?_ J J ?_); rotate_left; first | exact ai af J J J J | exact ap af J J J J J J | exact ag af 0 J J J J J | exact aV af J J J J J J J))
    refine aF rfl (by simp; omega) ?_
    repeat' (first | refine ah ?_ | refine aa ?_ | refine ab ?_ | refine ar ?_ | refine aK ?_ | refine aE ?_ | refine ae ?_ | ((refine' am rfl ?_ J J ?_); rotate_left; first | exact cM af (m := 22) j J J J J J J J J (fun _ => rfl) (fun _ => hj) | exact bg af (cs := KC u) J J J J J (fun _ => hrow) | exact bz J J J J J (by omega) | exact ai af J J J J | exact ag af 0 J J J J J) | refine aH rfl (av J J J J ⟨J, trivial⟩ rfl (by kernel_rfl)) (fun w hm => ma u w ((hN.ok u hu).2.1.below hm.below) (by omega) (hzi u hu)) J J ?_)
    rw [← hun]
    refine a8 (j + 1) [true] hj (show v.kv.length - (j + 1) < v.kv.length - j by omega) ⟨J, J, J, trivial⟩ rfl
  · have hjl : j = v.kv.length := by omega
    subst hjl
    repeat' (first | refine ah ?_ | refine aa ?_ | refine ab ?_ | refine ae ?_ | ((refine' am rfl ?_ J J ?_); rotate_left; first | exact ai af J J J J | exact ap af J J J J J J | exact ag af 0 J J J J J | exact aV af J J J J J J J))
    refine au rfl (by simp) ?_
    repeat' (first | refine ah ?_ | refine aa ?_ | refine ab ?_ | refine az ?_ | refine bj ?_ | refine aO ?_ | refine aU ?_ | refine ae ?_ | ((refine' am rfl ?_ J J ?_); rotate_left; exact ai af J J J J))
    refine ay af (fun _ => 0) J J trivial rfl fun w hm => ⟨?_, hm.below⟩
    rw [← hl, List.take_length]
set_option maxRecDepth 100000 in
set_option maxHeartbeats 8000000 in
theorem qU {A : Nat → Prop} (v : NV) (w : World) (hN : NOk A w v) (hzk : v.kv.length ≤ 606626243774) : Calls Tryz.prog 35 #[.agg #[.int .i64 v.c.sd, .int .i64 v.c.nx, .int .i64 v.c.la, .int .i64 v.c.aw, .int .i64 v.c.sz, .int .i64 v.c.sw.size, .int .i64 v.c.sw.left, .int .i64 v.c.sw.held, .int .i64 v.c.rw.size, .int .i64 v.c.rw.left, .int .i64 v.c.rw.held, .slice v.x v.kv.length v.xc, .slice v.o v.c.ou.length v.oc, .slice v.p v.c.pg.length v.pc, .bool v.c.cl]] w fun e w' => e = .returned (.int .i64 ((dw v.c.ks : Nat) : Int)) ∧ Below w.heap.size w w' := by
  refine aI Tryz.func35 rfl Tryz.ntmps35 J J ?_
  have hl := hN.lenk
  repeat' (first | refine ah ?_ | refine aa ?_ | refine ab ?_ | refine aK ?_ | refine ae ?_ | (refine aW J J J J J J ?_; intro g1) | ((refine' am rfl ?_ J J ?_); rotate_left; exact ai af J J J J))
  refine bu (σ := Nat) (fun p => p ≤ v.kv.length) (fun p => [(4, [], .int .i64 ((p : Nat) : Int)), (1, [], .pointer (some ⟨g1, 0, none⟩)), (3, [], .int .i64 ((dw (v.c.ks.take p) : Nat) : Int))]) (fun _ => [.cl g1 28 [.int .i64 v.c.sd, .int .i64 v.c.nx, .int .i64 v.c.la, .int .i64 v.c.aw, .int .i64 v.c.sz, .int .i64 v.c.sw.size, .int .i64 v.c.sw.left, .int .i64 v.c.sw.held, .int .i64 v.c.rw.size, .int .i64 v.c.rw.left, .int .i64 v.c.rw.held, .slice v.x v.kv.length v.xc, .slice v.o v.c.ou.length v.oc, .slice v.p v.c.pg.length v.pc, .bool v.c.cl]]) (fun p => v.kv.length - p) 0 [true] (Nat.zero_le _) ⟨J, J, J, trivial⟩ rfl ?_
  intro j hj0
  by_cases hj : j < v.kv.length
  · skip
    obtain ⟨u, hu0⟩ : ∃ u, v.kv[j]? = some u := ⟨v.kv[j], List.getElem?_eq_getElem hj⟩
    obtain ⟨bb, off, hx, _, _, hrows⟩ := hN.ks (by omega)
    have hrow : w.rangeAt bb (off + j * 22) (KC u) := hrows j u hu0
    have hq : v.c.ks[j]? = some u.k := by rw [hN.eq, List.getElem?_map, hu0]; rfl
    have hun := qS hq
    have hue := u5 v.c.ks j
    rw [hx]
    repeat' (first | refine ah ?_ | refine aa ?_ | refine ab ?_ | refine ae ?_ | ((refine' am rfl ?_ J J ?_); rotate_left; first | exact ai af J J J J | exact ap af J J J J J J | exact ag af 0 J J J J J | exact aV af J J J J J J J))
    refine aF rfl (by simp; omega) ?_
    repeat' (first | refine ah ?_ | refine aa ?_ | refine ab ?_ | refine ar ?_ | refine aK ?_ | refine ae ?_ | ((refine' am rfl ?_ J J ?_); rotate_left; first | exact cM af (m := 22) j J J J J J J J J (fun _ => rfl) (fun _ => hj) | exact b8 af (v := .bool u.k.st.done) J J J J J (fun _ => hrow 7 _ rfl) | exact ai af J J J J | exact ag af 0 J J J J J))
    cases hd : u.k.st.done with
    | true =>
      rw [hd, if_pos rfl] at hun
      refine au J J ?_
      repeat' (first | refine aa ?_ | refine ab ?_ | refine ar ?_ | refine aE ?_ | refine ae ?_ | ((refine' am rfl ?_ J J ?_); rotate_left; first | exact bz J J J J J (by omega) | exact ai af J J J J))
      rw [show dw (v.c.ks.take j) = dw (v.c.ks.take (j + 1)) by omega]
      refine a8 (j + 1) [true] hj (show v.kv.length - (j + 1) < v.kv.length - j by omega) ⟨J, J, J, trivial⟩ rfl
    | false =>
      rw [hd, if_neg (by simp)] at hun
      refine aF J J ?_
      repeat' (first | refine aa ?_ | refine ab ?_ | refine aE ?_ | refine ae ?_ | ((refine' am rfl ?_ J J ?_); rotate_left; first | exact bz J J J J J (by omega) | exact ai af J J J J))
      rw [show ((dw (v.c.ks.take j) : Nat) : Int) + 1 = ((dw (v.c.ks.take (j + 1)) : Nat) : Int) by omega]
      refine a8 (j + 1) [true] hj (show v.kv.length - (j + 1) < v.kv.length - j by omega) ⟨J, J, J, trivial⟩ rfl
  · have hjl : j = v.kv.length := by omega
    subst hjl
    repeat' (first | refine ah ?_ | refine aa ?_ | refine ab ?_ | refine ae ?_ | ((refine' am rfl ?_ J J ?_); rotate_left; first | exact ai af J J J J | exact ap af J J J J J J | exact ag af 0 J J J J J | exact aV af J J J J J J J))
    refine au rfl (by simp) ?_
    repeat' (first | refine ah ?_ | refine aa ?_ | refine ab ?_ | refine az ?_ | refine bj ?_ | refine aO ?_ | refine aU ?_ | refine ae ?_ | ((refine' am rfl ?_ J J ?_); rotate_left; exact ai af J J J J))
    refine ay af (fun _ => 0) J J trivial rfl fun w hm => ⟨?_, hm.below⟩
    rw [← hl, List.take_length]
end Go.Proofs.YthiocbcokfondaaGreatDoor.Y
namespace Go.Proofs.YthiocbcokfondaaGreatDoor.Y
open Go.RowKit
structure zu where
  win : dU
  n : Int
def zD (w : dU) : zu := if di w = false ∨ w.held = 0 ∨ 2 * w.held < w.size then ⟨w, 0⟩ else ⟨⟨w.size, w.left + w.held, 0⟩, w.held⟩
theorem wF (d : ByteArray) : (bl d).text.size ≤ d.size := by
  unfold bl
  split
  · unfold cW
    repeat' split
    all_goals first
      | exact Nat.zero_le _
      | (show (d.extract _ d.size).size ≤ d.size; rw [ByteArray.size_extract]; omega)
  · exact Nat.zero_le _
theorem qV {s : cP} {f : cO} (h2 : f.data.size < 4294967281) : (fO s f).text.size ≤ 4611686018427387900 := by
  unfold fO gW
  split
  · exact Nat.zero_le _
  · have := wF f.data
    show (bl f.data).text.size ≤ _
    omega
theorem iV {s : cP} {f : cO} (h1 : s.text.size ≤ 4611686018427387900) (h2 : f.data.size < 4294967281) : (cD s f).st.text.size ≤ 4611686018427387900 := by
  unfold cD
  repeat' split
  all_goals first
    | exact h1
    | exact qV h2
theorem sZ (s : cP) (f : cO) (r : sk) (h : cD s f = r) (w : World) (htx : s.text.size ≤ 4611686018427387900) (hfd : f.data.size < 4294967281) (hl : MLen w) : Calls Tryz.prog 107 #[.agg #[.int .i64 s.id, .int .i64 s.side, .int .i64 s.shape, .int .i64 s.sent, .int .i64 s.got, .bool s.se, .bool s.ge, .bool s.done, .int .i64 s.code, .string s.text, .int .i64 s.snd.size, .int .i64 s.snd.left, .int .i64 s.snd.held, .int .i64 s.rcv.size, .int .i64 s.rcv.left, .int .i64 s.rcv.held], .agg #[.int .i64 f.kind, .int .i64 f.strm, .int .i64 f.num, .string f.data]] w fun e w' => e = .returned (.tuple #[.agg ⟨tC r.st⟩, .int .i64 r.err]) ∧ Below w.heap.size w w' := by
  subst h
  exact sP s.id s.side s.shape s.sent s.got s.se s.ge s.done s.code s.text s.snd.size s.snd.left s.snd.held s.rcv.size s.rcv.left s.rcv.held f.kind f.strm f.num f.data w htx hfd hl
attribute [local irreducible] Calls
set_option maxRecDepth 100000 in
set_option maxHeartbeats 16000000 in
theorem s5 {A : Nat → Prop} (v : KV) (w : World) (hO : Rws A w 4 fC v.o v.k.ob) (hzo : v.k.ob.length ≤ 3518437208883) (htx : v.k.st.text.size ≤ 4611686018427387900) (hfd : ∀ f ∈ v.k.ob, f.data.size < 4294967281) (hg : MLen w) : Calls Tryz.prog 139 #[.agg #[.int .i64 v.k.st.id, .int .i64 v.k.st.side, .int .i64 v.k.st.shape, .int .i64 v.k.st.sent, .int .i64 v.k.st.got, .bool v.k.st.se, .bool v.k.st.ge, .bool v.k.st.done, .int .i64 v.k.st.code, .string v.k.st.text, .int .i64 v.k.st.snd.size, .int .i64 v.k.st.snd.left, .int .i64 v.k.st.snd.held, .int .i64 v.k.st.rcv.size, .int .i64 v.k.st.rcv.left, .int .i64 v.k.st.rcv.held, .string v.k.sv, .string v.k.mt, .int .i64 v.k.lt, .slice v.m v.k.ms.length v.mc, .slice v.i v.k.ib.length v.ic, .slice v.o v.k.ob.length v.oc]] w fun e w' => e = .returned (.tuple #[.agg ⟨tC (dH v.k.ob v.k.st).st⟩, .int .i64 (dH v.k.ob v.k.st).err]) ∧ Below w.heap.size w w' := by
  refine aI Tryz.func139 rfl Tryz.ntmps139 J J ?_
  refine ah ?_
  refine aa ?_
  (refine aW J J J J J J ?_; intro g1)
  (refine aN af J J J J J J ?_; intro g2)
  repeat' (first | refine ah ?_ | refine aa ?_ | refine ab ?_ | refine aK ?_ | refine ae ?_ | (refine aN af J J J J J J ?_; intro g4) | ((refine' am rfl ?_ J J ?_); rotate_left; first | exact ai af J J J J | exact ag af 1 J J J J J | exact ag af 2 J J J J J | exact aV af J J J J J J J) | refine aq af 0 J J J J J J J J J J J J ?_)
  refine bu (σ := Nat × cP) (fun p => p.1 ≤ v.k.ob.length ∧ p.2.text.size ≤ 4611686018427387900 ∧ dH v.k.ob v.k.st = dH (v.k.ob.drop p.1) p.2) (fun p => [(14, [], .int .i64 ((p.1 : Nat) : Int)), (13, [], .int .i64 ((v.k.ob.length : Nat) : Int)), (12, [], .slice v.o v.k.ob.length v.oc), (4, [], .pointer (some ⟨g4, 0, none⟩)), (2, [], .pointer (some ⟨g2, 0, none⟩))]) (fun p => [.cl g4 33 (tC p.2), .cl g2 33 [.int .i64 0, .int .i64 0, .int .i64 0, .int .i64 0, .int .i64 0, .bool false, .bool false, .bool false, .int .i64 0, .string ⟨#[]⟩, .int .i64 0, .int .i64 0, .int .i64 0, .int .i64 0, .int .i64 0, .int .i64 0]]) (fun p => v.k.ob.length - p.1) (0, v.k.st) [true, true, false] ⟨Nat.zero_le _, htx, rfl⟩ ⟨J, J, J, J, J, trivial⟩ rfl ?_
  rintro ⟨j, s⟩ ⟨hj0, hs0, hr⟩
  dsimp only at hj0 hs0 hr ⊢
  by_cases hj : j < v.k.ob.length
  · obtain ⟨f, hf⟩ : ∃ f, v.k.ob[j]? = some f := ⟨v.k.ob[j], List.getElem?_eq_getElem hj⟩
    obtain ⟨bb, off, hx, _, _, hrows⟩ := hO (by omega)
    have hrow : w.rangeAt bb (off + j * 4) (fC f) := hrows j f hf
    have hfd0 := hfd f (List.mem_of_getElem? hf)
    obtain ⟨r, hr0⟩ : ∃ r, cD (ip s) f = r := ⟨_, rfl⟩
    have hrt : r.st.text.size ≤ 4611686018427387900 := by rw [← hr0]; exact iV hs0 hfd0
    rw [cz hf, dH, hr0] at hr
    rw [hx]
    repeat' (first | refine ah ?_ | refine aa ?_ | refine ab ?_ | refine ae ?_ | ((refine' am rfl ?_ J J ?_); rotate_left; exact ap af J J J J J J))
    refine aF rfl (by simp; omega) ?_
    repeat' (first | refine ah ?_ | refine aa ?_ | refine ab ?_ | refine ar ?_ | refine aK ?_ | refine ae ?_ | (refine aN af J J J J J J ?_; intro g6) | ((refine' am rfl ?_ J J ?_); rotate_left; first | exact cM af (m := 4) j J J J J J J J J (fun _ => rfl) (fun _ => hj) | exact bg af (cs := fC f) J J J J J (fun _ => hrow) | exact ai af J J J J | exact ap af J J J J J J | exact ag af 0 J J J J J | exact ag af 1 J J J J J) | refine aH rfl (av J J J J ⟨J, J, trivial⟩ rfl (by kernel_rfl)) (fun w hm => sZ (ip s) f r hr0 w hs0 hfd0 (hg.below hm.below)) J J ?_ | refine aq af 0 J J J J J J J J J J J J ?_ | refine aq af 1 J J J J J J J J J J J J ?_)
    by_cases he : r.err = 0
    · rw [if_neg (by simpa using he)] at hr
      refine au rfl (by simpa using he) ?_
      repeat' (first | refine aa ?_ | refine ab ?_ | refine ar ?_ | refine aE ?_ | refine ae ?_ | ((refine' am rfl ?_ J J ?_); rotate_left; first | exact bz J J J J J (by omega) | exact ai af J J J J | exact ag af 0 J J J J J) | refine aq af 2 J J J J J J J J J J J J ?_)
      refine a8 (j + 1, r.st) [false, false, true, true] ⟨hj, hrt, hr⟩ (show v.k.ob.length - (j + 1) < v.k.ob.length - j by omega) ⟨J, J, J, J, J, trivial⟩ rfl
    · rw [if_pos (by simpa using he)] at hr
      refine aF rfl (by simpa using he) ?_
      repeat' (first | refine ah ?_ | refine aa ?_ | refine ab ?_ | refine az ?_ | refine ak ?_ | refine a7 ?_ | refine ae ?_ | ((refine' am rfl ?_ J J ?_); rotate_left; first | exact ai af J J J J | exact ag af 2 J J J J J) | refine aq af 3 J J J J J J J J J J J J ?_)
      (refine ay af (fun _ => 3) J J ⟨J, trivial⟩ rfl fun w1 hm => ⟨?_, hm.below⟩)
      rw [hr]
      rfl
  · rw [List.drop_eq_nil_of_le (by omega), dH] at hr
    repeat' (first | refine ah ?_ | refine aa ?_ | refine ab ?_ | refine ae ?_ | ((refine' am rfl ?_ J J ?_); rotate_left; exact ap af J J J J J J))
    refine au rfl (by simp; omega) ?_
    repeat' (first | refine ah ?_ | refine aa ?_ | refine ab ?_ | refine az ?_ | refine bj ?_ | refine aO ?_ | refine aU ?_ | refine ae ?_ | ((refine' am rfl ?_ J J ?_); rotate_left; first | exact ai af J J J J | exact ag af 0 J J J J J) | refine aq af 0 J J J J J J J J J J J J ?_ | refine aq af 1 J J J J J J J J J J J J ?_)
    (refine ay af (fun _ => 1) J J ⟨J, trivial⟩ rfl fun w1 hm => ⟨?_, hm.below⟩)
    rw [hr]
    rfl
end Go.Proofs.YthiocbcokfondaaGreatDoor.Y
