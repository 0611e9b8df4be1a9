/- Texts of this claim merged into one: KVStp, KCn18, KRegYC, KCn19. -/
import Derived.Test.YtklcfjlmlbnkaaaGreatDoorKBunW
import Derived.Test.YtklcfjlmlbnkaaaGreatDoorKBunT
import Derived.Test.YtklcfjlmlbnkaaaGreatDoorKBunC9
import Derived.Test.YtklcfjlmlbnkaaaGreatDoorKBunC10
import Derived.Test.YtklcfjlmlbnkaaaGreatDoorKBunY
namespace Go.Proofs.YtklcfjlmlbnkaaaGreatDoor.Y
structure Hf where
  kind : Int
  id : Int
  n : Int
  msg : ByteArray
  h : jU
  f : FrV
  tc : Int
  tt : ByteArray
structure IZ where
  e : Int
  id : Int
  msg : ByteArray
  ok : Bool
  outs : List FrV
def Ci (c : NL) (o : Hf) : NL :=
  if o.kind = 0 then (cu c o.h o.n).1 else if o.kind = 1 then (fD c o.id o.msg).1 else if o.kind = 2 then (EQ c o.id).1
  else if o.kind = 3 then (ER c o.id o.tc o.tt).1 else if o.kind = 4 then (uo c o.id o.n).1 else if o.kind = 5 then (aG c o.id).1
  else if o.kind = 6 then (dg c o.f).1 else if o.kind = 7 then (gX c).1 else if o.kind = 8 then (uq c o.n).1
  else if o.kind = 9 then xN c else if o.kind = 10 then lu c else if o.kind = 11 then xO c o.id else c
set_option maxHeartbeats 2000000 in
theorem Cj {c : NL} (o : Hf) (p : NL → Prop) (h0 : p c) (h1 : p (cu c o.h o.n).1) (h2 : ∀ f chk, (f.kind = 2 ∨ f.kind = 3 ∨ f.kind = 4) → p (eP c f chk).1) (h3 : p (uo c o.id o.n).1) (h4 : p (aG c o.id).1) (h5 : o.kind = 6 → p (dg c o.f).1) (h6 : o.kind = 7 → p (gX c).1) (h7 : p (uq c o.n).1) (h8 : p (xN c)) (h9 : p (lu c)) (h10 : p (xO c o.id)) : p (Ci c o) := by
  unfold Ci
  split
  · exact h1
  split
  · exact h2 _ _ (.inl rfl)
  split
  · exact h2 _ _ (.inr (.inl rfl))
  split
  · exact h2 _ _ (.inr (.inr rfl))
  split
  · exact h3
  split
  · exact h4
  split
  · rename_i h; exact h5 h
  split
  · rename_i h; exact h6 h
  split
  · exact h7
  split
  · exact h8
  split
  · exact h9
  split
  · exact h10
  · exact h0
theorem VN.step {c : NL} (h : VN c) (o : Hf) : VN (Ci c o) :=
  Cj o VN h (h.open _ _) (fun f chk hk => h.wait f chk hk) (h.cancel _ _) (h.read _) (fun _ => h.feed _) (fun _ => h.flush) (h.ping _) h.away h.close (h.drop _)
structure K2 (k k' : KR) : Prop where
  id : k'.st.id = k.st.id
  st : k.st.done = true → k'.st.done = true ∧ k'.st.code = k.st.code ∧ k'.st.text = k.st.text
theorem K2.refl (k : KR) : K2 k k := ⟨rfl, fun h => ⟨h, rfl, rfl⟩⟩
theorem K2.trans {a b d : KR} (h1 : K2 a b) (h2 : K2 b d) : K2 a d := ⟨h2.id.trans h1.id, fun h => by
  obtain ⟨x, y, z⟩ := h1.st h
  obtain ⟨x', y', z'⟩ := h2.st x
  exact ⟨x', y'.trans y, z'.trans z⟩⟩
def Kq (l l' : List KR) : Prop := ∀ k ∈ l, ∃ k' ∈ l', K2 k k'
def Kp (l l' : List KR) : Prop := ∀ k ∈ l, (∃ k' ∈ l', K2 k k') ∨ (k.st.done = true ∧ ∀ y ∈ l', y.st.id ≠ k.st.id)
theorem Kq.kp {l l' : List KR} (h : Kq l l') : Kp l l' := fun k hk => .inl (h k hk)
theorem Kq.refl (l : List KR) : Kq l l := fun k hk => ⟨k, hk, .refl k⟩
theorem Kq.trans {a b d : List KR} (h1 : Kq a b) (h2 : Kq b d) : Kq a d := fun k hk => by
  obtain ⟨k1, hk1, e1⟩ := h1 k hk
  obtain ⟨k2, hk2, e2⟩ := h2 k1 hk1
  exact ⟨k2, hk2, e1.trans e2⟩
theorem Kq.set {l : List KR} {i : Nat} {k k' : KR} (hi : l[i]? = some k) (h : K2 k k') : Kq l (l.set i k') := fun x hx => by
  obtain ⟨j, hj⟩ := List.getElem?_of_mem hx
  by_cases e : i = j
  · subst e
    rw [hi] at hj
    obtain rfl := Option.some.inj hj
    exact ⟨k', List.mem_of_getElem? (List.getElem?_set_self (List.getElem?_eq_some_iff.1 hi).1), h⟩
  · exact ⟨x, List.mem_of_getElem? (by rw [List.getElem?_set_ne e]; exact hj), .refl x⟩
end Go.Proofs.YtklcfjlmlbnkaaaGreatDoor.Y
namespace Go.Proofs.YtklcfjlmlbnkaaaGreatDoor.Y
open Go.RowKit
def FK (l : List KV) (b : Nat) : Prop := ∃ e ∈ l.flatMap EK, e.foot b
theorem dD {w : World} {B cap sz : Nat} {T : TypeId} {a : Option Addr} {xs : List Value} {α : Type} {f : α → List Value} {l : List α} (hf : ∀ x, (f x).length = sz) (h : w.ownsRow B T sz (.slice a l.length cap) l.length xs) (he : xs = l.flatMap f) : Rws (fun b => (Ent.own a cap T sz l.length xs).foot b) w sz f a l := by
  subst he
  exact (Bh hf h).mono fun b ⟨ad, h1, h2⟩ => by subst h1; exact Ent.mut_foot (e := .own (some ad) cap T sz l.length (l.flatMap f)) (by exact h2)
theorem Ck {w0 w : World} {a b c : Ent} {l : List KV} {M : List Ent} (h : Mem w0 w (a :: b :: c :: (l.flatMap EK ++ M))) : ∀ k, FK l k → w0.heap.size ≤ k := fun k ⟨e, he, hk⟩ => by
  have h1 : MemL w0.heap.size w (l.flatMap EK) := (MemL.split (M1 := l.flatMap EK) h.2.2.2.2.2.2.2).1
  have hok := MemL.mem h1 e he
  have hr := wA l e he
  cases e with
  | rep F p => cases hr
  | obj g o => exact (hok.mut_lt (k := k) hk).1
  | own a cap e size n xs => exact (hok.mut_lt (k := k) hk).1
theorem E0 {w : World} {B : Nat} {l : List KV} (h : MemL B w (l.flatMap EK)) : ∀ u ∈ l, KOk (FK l) w u := fun u hu => by
  have h1 := qU h hu
  have hm : ∀ e ∈ EK u, e ∈ l.flatMap EK := fun e he => List.mem_flatMap.2 ⟨u, hu, he⟩
  refine ⟨(dD iK h1.1 rfl).mono fun b hb => ⟨_, hm _ (List.mem_cons_self ..), hb⟩, (dD eb h1.2.2.2.2.1 rfl).mono fun b hb => ⟨_, hm _ (List.mem_cons_of_mem _ (List.mem_cons_of_mem _ (List.mem_cons_self ..))), hb⟩, (dD ej h1.2.2.1 rfl).mono fun b hb => ⟨_, hm _ (List.mem_cons_of_mem _ (List.mem_cons_self ..)), hb⟩⟩
theorem sL {w0 w : World} {a b c : Ent} {l : List KV} {M : List Ent} (h : Mem w0 w (a :: b :: c :: (l.flatMap EK ++ M))) : Mem w0 w (a :: b :: c :: .rep (FK l) (fun w => ∀ u ∈ l, KOk (FK l) w u) :: M) := by
  have h1 : Mem w0 w (l.flatMap EK ++ ([a, b, c] ++ M)) := h.perm (by
    rw [show a :: b :: c :: (l.flatMap EK ++ M) = [a, b, c] ++ (l.flatMap EK ++ M) from rfl, ← List.append_assoc, ← List.append_assoc]
    exact List.Perm.append_right _ List.perm_append_comm)
  have h2 := Mem.fuse (l.flatMap EK) (FK l) (fun w => ∀ u ∈ l, KOk (FK l) w u) h1 rfl (fun k hk => hk) (fun hm => E0 hm) (fun w1 w2 hk hp u hu => (hp u hu).agree hk)
  exact h2.perm (List.perm_middle (l₁ := [a, b, c]) (l₂ := M)).symm
theorem sM {A : Nat → Prop} {w w1 : World} {v' : NV} (hb : Below w.heap.size w w1) (hks : w1.ownsRow w.heap.size 87 22 (.slice v'.x v'.kv.length v'.xc) v'.kv.length (v'.kv.flatMap KC)) (hou : w1.ownsRow w.heap.size 74 4 (.slice v'.o v'.c.ou.length v'.oc) v'.c.ou.length (v'.c.ou.flatMap fC)) (hpg : w1.ownsRow w.heap.size 3 1 (.slice v'.p v'.c.pg.length v'.pc) v'.c.pg.length (v'.c.pg.flatMap iC)) (heq : v'.c.ks = v'.kv.map (·.k)) (hkk : ∀ u ∈ v'.kv, KOk (fun b => w.heap.size ≤ b) w1 u) : OutN A w w1 v' :=
  ⟨⟨(Rws.own aK hks).mono fun _ => .inr, (Rws.own ej hou).mono fun _ => .inr, (Rws.own fR hpg).mono fun _ => .inr, heq, fun u hu => (hkk u hu).mono fun _ => .inr⟩, hb⟩
def iM (above : Int) (u : KV) : KV := if u.k.st.done = false ∧ above < u.k.st.id then fX { u with k := { u.k with st := uk u.k.st 12 emptyB } } else u
theorem wY (above : Int) (u : KV) : (iM above u).k = fS above u.k := by
  unfold iM fS
  split
  · rw [sB]
  · rfl
theorem pN {A : Nat → Prop} {w : World} {u : KV} (h : KOk A w u) : KOk A w (fX u) := by
  unfold fX
  split
  · exact ⟨h.1, h.2.1, dw⟩
  · exact h
theorem sN {A : Nat → Prop} {w : World} {above : Int} {u : KV} (h : KOk A w u) : KOk A w (iM above u) := by
  unfold iM
  split
  · exact pN ⟨h.1, h.2.1, h.2.2⟩
  · exact h
theorem Iw (s t : StV) (h : uk s 12 emptyB = t) (w : World) (htx : s.text.size ≤ 4611686018427387900) : Calls Tryz.prog 114 #[.agg ⟨tC s⟩, .agg #[.int .i64 12, .string ⟨#[]⟩]] w fun e w' => e = .returned (.agg ⟨tC t⟩) ∧ Below w.heap.size w w' := by
  subst h
  exact DW s.id s.side s.shape s.sent s.got s.se s.ge s.done s.code s.text s.snd.size s.snd.left s.snd.held s.rcv.size s.rcv.left s.rcv.held 12 ⟨#[]⟩ w htx (by decide)
theorem mF {u : KV} {i : Nat} {x : Value} (h : (tC u.k.st)[i]? = some x) : (KC u)[i]? = some x := by
  have hi : i < (tC u.k.st).length := (List.getElem?_eq_some_iff.1 h).1
  have e : KC u = tC u.k.st ++ (KC u).drop 16 := rfl
  rw [e, List.getElem?_append_left hi]
  exact h
attribute [local irreducible] Calls
set_option maxRecDepth 100000 in
set_option maxHeartbeats 16000000 in
theorem pO {w0 : World} {M : List Ent} (gc : Nat) (xa : Option Addr) (xc : Nat) (a0 a1 a2 a3 a4 a5 a6 a7 a8 a9 a10 b0 b1 b2 : Value) (kv : List KV) (above : Int) (w : World) (hzk : kv.length ≤ 606626243774) (htx : ∀ u ∈ kv, u.k.st.text.size ≤ 4611686018427387900) (hM : Mem w0 w (.own xa xc 87 22 kv.length (kv.flatMap KC) :: .cl gc 34 [a0, a1, a2, a3, a4, a5, a6, a7, a8, a9, a10, .slice xa kv.length xc, b0, b1, b2] :: M)) : Calls Tryz.prog 89 #[.pointer (some ⟨gc, 0, none⟩), .int .i64 above] w fun e w' => ∃ r : Value, True ∧ e = .returned r ∧ Mem w0 w' (.own xa xc 87 22 kv.length ((kv.map (iM above)).flatMap KC) :: .cl gc 34 [a0, a1, a2, a3, a4, a5, a6, a7, a8, a9, a10, .slice xa kv.length xc, b0, b1, b2] :: M) := by
  refine bv hM Tryz.func89 rfl Tryz.ntmps89 J J ?_
  repeat' refine nx ?_
  refine bP (σ := Nat × List KV) (fun p => p.1 ≤ kv.length ∧ p.2.length = p.1 ∧ p.2 = (kv.take p.1).map (iM above)) (fun p => [(11, [], .int .i64 ((p.1 : Nat) : Int)), (10, [], .int .i64 ((kv.length : Nat) : Int)), (0, [], .pointer (some ⟨gc, 0, none⟩)), (1, [], .int .i64 above)]) (fun p => .own xa xc 87 22 kv.length ((p.2 ++ kv.drop p.1).flatMap KC) :: .cl gc 34 [a0, a1, a2, a3, a4, a5, a6, a7, a8, a9, a10, .slice xa kv.length xc, b0, b1, b2] :: M) (fun p => kv.length - p.1) (0, []) [true, true] ⟨Nat.zero_le _, rfl, rfl⟩ ⟨J, J, J, J, trivial⟩ rfl ?_
  rintro ⟨j, d⟩ ⟨hj0, hd, hmap⟩
  dsimp only at hj0 hd hmap ⊢
  by_cases hj : j < kv.length
  · obtain ⟨u, hu0⟩ : ∃ u, kv[j]? = some u := ⟨kv[j], List.getElem?_eq_getElem hj⟩
    have hu := List.mem_of_getElem? hu0
    have hat := Be hd hu0
    have htx0 := htx u hu
    have hn0 : 0 < kv.length := Nat.lt_of_le_of_lt (Nat.zero_le _) hj
    refine bc ?_
    refine aH ?_
    refine oV 0 rfl hn0 ?_
    rintro gx rfl
    repeat' refine nx ?_
    refine aq rfl (show decide (((j : Nat) : Int) < ((kv.length : Nat) : Int)) = true from decide_eq_true (by omega)) ?_
    repeat' (first | refine vx rfl (ia (m := 22) j hj) ?_ | refine nx ?_)
    refine vx rfl (bM af 0 (v := .bool u.k.st.done) J J J J J J (fun _ => by rw [Nat.zero_add]; exact aJ aK hat (k := 7) rfl)) ?_
    repeat' refine cV ?_
    refine vx rfl (bM af 0 (v := .int .i64 u.k.st.id) J J J J J J (fun _ => by rw [Nat.zero_add]; exact aJ aK hat (k := 0) rfl)) ?_
    repeat' refine cV ?_
    by_cases hc : u.k.st.done = false ∧ above < u.k.st.id
    · obtain ⟨t, ht⟩ : ∃ t, uk u.k.st 12 emptyB = t := ⟨_, rfl⟩
      have hev : iM above u = fX { u with k := { u.k with st := t } } := by unfold iM; rw [if_pos hc, ht]
      refine aq rfl (by rw [hc.1]; simp; exact hc.2) ?_
      repeat' (first | refine vx rfl (fv af 0 (cs := tC u.k.st) J J J J J J (fun _ i x hx => by rw [Nat.zero_add, Nat.add_zero]; exact aJ aK hat (mF hx))) ?_ | refine cl (fun w hm => Iw u.k.st t ht w htx0) ?_ | refine nx ?_)
      refine cF af 0 J J J J J J J J J (show jv _ (0 + j * 22 + 0) _ = _ from by rw [Nat.zero_add]; exact cy aK (d ++ kv.drop j) j 0 (u) ({ u with k := { u.k with st := t } }) _ hat rfl) J J ?_
      repeat' refine cV ?_
      have hat1 : ((d ++ kv.drop j).set j { u with k := { u.k with st := t } })[j]? = some { u with k := { u.k with st := t } } := dH hat _
      refine bj (σ := Value) (fun _ => True) (fun r => r) (fun _ => _) rfl (ap J J J J ⟨J, trivial⟩ rfl (by kernel_rfl)) (fun w hM => (kY gx xc kv.length j ((d ++ kv.drop j).set j { u with k := { u.k with st := t } }) { u with k := { u.k with st := t } } hat1 w hM).mono fun e w' ⟨r, h1, h2, h3⟩ => ⟨r, trivial, h2, h3⟩) J J ?_
      rintro rv -
      rw [List.set_set, ← hev, xJ hd hu0]
      repeat' (first | refine vx rfl (bd J J J J J (by omega)) ?_ | refine cV ?_)
      exact aU (j + 1, d ++ [iM above u]) [] ⟨hj, by simp [hd], by rw [List.take_add_one, hu0]; simp [hmap]⟩ (show kv.length - (j + 1) < kv.length - j by omega) ⟨J, J, J, J, trivial⟩ rfl
    · have hev : iM above u = u := by unfold iM; rw [if_neg hc]
      refine ai rfl (by
        cases h1 : u.k.st.done with
        | true => rfl
        | false => simp; exact Int.not_lt.1 (fun h => hc ⟨h1, h⟩)) ?_
      repeat' (first | refine vx rfl (bd J J J J J (by omega)) ?_ | refine cV ?_)
      refine gk (M' := .own (some ⟨gx, 0, none⟩) xc 87 22 kv.length ((((j + 1, d ++ [iM above u]) : Nat × List KV).2 ++ kv.drop ((j + 1, d ++ [iM above u]) : Nat × List KV).1).flatMap KC) :: .cl gc 34 [a0, a1, a2, a3, a4, a5, a6, a7, a8, a9, a10, .slice (some ⟨gx, 0, none⟩) kv.length xc, b0, b1, b2] :: M) (fun w hM => ?_) ?_
      · have e : d ++ [iM above u] ++ kv.drop (j + 1) = d ++ kv.drop j := by rw [hev, List.append_assoc, kT hu0]; rfl
        dsimp only
        rw [e]
        exact hM
      · exact aU (j + 1, d ++ [iM above u]) [] ⟨hj, by simp [hd], by rw [List.take_add_one, hu0]; simp [hmap]⟩ (show kv.length - (j + 1) < kv.length - j by omega) ⟨J, J, J, J, trivial⟩ rfl
  · have hjl : j = kv.length := by omega
    subst hjl
    repeat' refine nx ?_
    refine ai rfl (by simp) ?_
    repeat' refine cV ?_
    (refine bJ af (fun _ => 0) J J trivial rfl fun w1 hm => ?_)
    refine ⟨_, trivial, rfl, ?_⟩
    rw [hmap, List.take_length, List.drop_length, List.append_nil] at hm
    exact hm
set_option maxRecDepth 100000 in
set_option maxHeartbeats 16000000 in
theorem wZ {A : Nat → Prop} (v : NV) (w : World) (hN : NOk A w v) (hz : DP v) (hgd : FJ v) : Calls Tryz.prog 58 #[.agg ⟨NC v⟩] w fun e w' => ∃ v' : NV, v'.c = lu v.c ∧ e = .returned (.agg ⟨NC v'⟩) ∧ OutN A w w' v' := by
  refine aA Tryz.func58 rfl Tryz.ntmps58 J J ?_
  have hzk := hz.ks
  repeat' (first | (refine bx ?_; intro g1) | (refine al ?_; intro g2) | refine nx ?_)
  refine cQ (σ := NV) (fun s => s.c = v.c ∧ s.kv.map (·.k) = v.kv.map (·.k)) (fun s => .agg ⟨NC s⟩) (fun s => EN s) rfl (ap J J J J ⟨J, trivial⟩ rfl (by kernel_rfl)) (fun w1 hm => jg v w1 (hN.below hm.below) hz) J J ?_
  rintro ⟨c1, x1, xc1, kv1, o1, oc1, p1, pc1⟩ ⟨hc1, hkm⟩
  dsimp only at hc1 hkm
  subst hc1
  dsimp only [EN, NC, List.cons_append, List.nil_append]
  refine iy (fun w1 hm => Ck hm) (fun hFK => ?_)
  refine cR (fun w1 hm => sL hm) ?_
  have hlk : kv1.length = v.kv.length := pu hkm
  have htx : ∀ u ∈ kv1, u.k.st.text.size ≤ 4611686018427387900 := fun u hu => by
    have h1 : u.k ∈ v.kv.map (·.k) := by rw [← hkm]; exact List.mem_map_of_mem hu
    obtain ⟨u0, hu0, e0⟩ := List.mem_map.1 h1
    rw [← e0]
    exact hgd.tx u0 hu0
  repeat' (first | (refine al ?_; intro g3) | refine nx ?_)
  refine cR (fun w1 hm => hm.perm (List.perm_middle (l₁ := [_, _, _]))) ?_
  dsimp only [List.cons_append, List.nil_append]
  refine bj (σ := Value) (fun _ => True) (fun r => r) (fun _ => _) rfl (ap J J J J ⟨J, J, trivial⟩ rfl (by kernel_rfl)) (fun w1 hM => (pO g3 x1 xc1 _ _ _ _ _ _ _ _ _ _ _ _ _ _ kv1 0 w1 (by omega) htx hM).mono fun e w' ⟨r, h1, h2, h3⟩ => ⟨r, trivial, h2, h3⟩) J J ?_
  rintro rv -
  repeat' refine nx ?_
  (refine rt ?_; refine fun w1 hm => ⟨⟨lu v.c, x1, xc1, kv1.map (iM 0), none, 0, p1, pc1⟩, rfl, ?_, ?_⟩)
  · simp only [List.length_map]; rfl
  · refine sM hm.below (by rw [List.length_map]; exact hm.2.get (i := 0) rfl) (World.ownsRow_nil _ _ _ _) (hm.2.get (i := 2) rfl) ?_ (fun u hu => ?_)
    · show v.c.ks.map (fS 0) = (kv1.map (iM 0)).map (·.k)
      rw [hN.eq, ← hkm, List.map_map, List.map_map]
      exact List.map_congr_left fun u _ => (wY 0 u).symm
    · obtain ⟨u0, hu0, rfl⟩ := List.mem_map.1 hu
      exact sN (((hm.2.get (i := 4) rfl).2.1 u0 hu0).mono hFK)
end Go.Proofs.YtklcfjlmlbnkaaaGreatDoor.Y
namespace Go.Proofs.YtklcfjlmlbnkaaaGreatDoor.Y
open Go.RowKit
section
variable {P : Program} {T : eo} {l0 rest : List Oper} {Z : Act → World → Prop} {Q : Exit → Act → World → Prop} {n : Nat} {w0 : World} {S : bq} {M M' M2 : List Ent} {p : World → Prop} {L : Cd} {o : Oper} {d : Nat}
theorem oq {f : FuncId} {args : List Value} {v : Value} (hg : o.guard = none) (ho : dd P S [] o f args) (hk : (rV o.op).pure = false) (hk2 : (rV o.op).read = false) (hc : ∀ w, Mem w0 w M → Calls P f ⟨args⟩ w fun e w' => e = .returned v ∧ Below w.heap.size w w')
    (hM' : ∀ w, Mem w0 w M → Mem w0 w M' ∧ p w) (hd : o.dst = some d) (hn : Nat.blt d n = true) (h : SY P l0 Z rest n w0 M' p ((d, [], v) :: S) M) : SY P l0 Z (o :: rest) n w0 M' p S M := by
  have hdn : d < n := Nat.le_of_ble_eq_true hn
  refine ⟨fun a w hS hM => bK (by unfold Region.wanted; rw [hg]) hk hk2 fun K hK => ?_⟩
  refine Vals.wp (R := fun v' w' => v' = v ∧ Mem w0 w' M) rfl (cW (ho.ok n a w hS rfl) ((hc w hM).mono fun e w' ⟨h1, h2⟩ => ⟨v, h1, rfl, hM.keep h2⟩)) (fun v' w' ⟨hv, hm⟩ => hK _ _ ⟨hM' _ hm, h.run _ _ ?_ hm⟩)
  subst hv
  rw [hd]; exact hS.put hdn (by simp [az])
theorem fK {σ : Type} {f : FuncId} {args : List Value} (Φ : σ → Prop) (V : σ → Value) (N : σ → List Ent) (hg : o.guard = none) (ho : dd P S [] o f args)
    (hc : ∀ w, Mem w0 w M → Calls P f ⟨args⟩ w fun e w' => ∃ s, Φ s ∧ e = .returned (V s) ∧ Mem w0 w' (N s)) (hd : o.dst = some d) (hn : Nat.blt d n = true)
    (h : ∀ s, Φ s → SQ Q .normal n w0 ((d, [], V s) :: S) (N s)) : SY P l0 (iW P l0.toArray o (Q .normal)) [] n w0 M' p S M := by
  have hdn : d < n := Nat.le_of_ble_eq_true hn
  refine ⟨fun a w hS hM => eD (mZ (by unfold Region.wanted; rw [hg]) fun K hK => ?_)⟩
  refine Vals.wp (R := fun v' w' => ∃ s, Φ s ∧ v' = V s ∧ Mem w0 w' (N s)) rfl (cW (ho.ok n a w hS rfl) ((hc w hM).mono fun e w' ⟨s, h1, h2, h3⟩ => ⟨V s, h2, s, h1, rfl, h3⟩)) (fun v' w' ⟨s, h1, hv, hm⟩ => hK _ _ ((h s h1).run _ _ ?_ hm))
  subst hv
  rw [hd]; exact hS.put hdn (by simp [az])
end
end Go.Proofs.YtklcfjlmlbnkaaaGreatDoor.Y
namespace Go.Proofs.YtklcfjlmlbnkaaaGreatDoor.Y
open Go.RowKit
def fL (cl : Bool) (x : WinV) (u : Int) : WinV := if cl = true ∨ db x u ≤ 0 then x else wo x (db x u)
def eQ (cl : Bool) (x : WinV) (u id : Int) (l : List FrV) : List FrV := if cl = true ∨ db x u ≤ 0 then l else l ++ [⟨6, id, db x u, emptyB⟩]
theorem jm (c : NL) : gbC c = { c with rw := fL c.cl c.rw (aP c.ks), ou := eQ c.cl c.rw (aP c.ks) 0 c.ou } := by
  unfold gbC fL eQ
  split <;> rfl
theorem zH {cl : Bool} {x : WinV} {u id : Int} {l : List FrV} : (eQ cl x u id l).length ≤ l.length + 1 := by
  unfold eQ
  split
  · exact Nat.le_succ _
  · rw [List.length_append, List.length_singleton]; exact Nat.le_refl _
theorem Cl (x : WinV) (u n : Int) (h : db x u = n) (w : World) (hu : 0 ≤ u ∧ u ≤ 4611686018427387904) (hh : 0 ≤ x.held ∧ x.held ≤ 4611686018427387904) : Calls Tryz.prog 93 #[.agg #[.int .i64 x.size, .int .i64 x.left, .int .i64 x.held], .int .i64 u] w fun e w' => e = .returned (.int .i64 n) ∧ Below w.heap.size w w' := by
  subst h
  exact zq x u w hu hh
attribute [local irreducible] Calls
set_option maxRecDepth 100000 in
set_option maxHeartbeats 16000000 in
theorem kD {w0 : World} {M : List Ent} (gc : Nat) (a0 a1 a2 a3 a4 a5 a6 a7 b0 b1 : Value) (cl : Bool) (x : WinV) (o : Option Addr) (oc : Nat) (ou : List FrV) (id u : Int) (w : World) (hx : aS x = true) (hu0 : 0 ≤ u) (hu1 : u ≤ x.held) (hou : ou.length ≤ 2000000000) (hM : Mem w0 w (.own o oc 74 4 ou.length ((ou).flatMap fC) :: .cl gc 34 [a0, a1, a2, a3, a4, a5, a6, a7, .int .i64 x.size, .int .i64 x.left, .int .i64 x.held, b0, .slice o ou.length oc, b1, .bool cl] :: M)) : Calls Tryz.prog 60 #[.pointer (some ⟨gc, 0, none⟩), .pointer (some ⟨gc, 0 + 8, none⟩), .int .i64 id, .int .i64 u] w fun e w' => ∃ s : Value × Option Addr × Nat, True ∧ e = .returned s.1 ∧ Mem w0 w' (.own s.2.1 s.2.2 74 4 (eQ cl x u id ou).length (((eQ cl x u id ou)).flatMap fC) :: .cl gc 34 [a0, a1, a2, a3, a4, a5, a6, a7, .int .i64 (fL cl x u).size, .int .i64 (fL cl x u).left, .int .i64 (fL cl x u).held, b0, .slice s.2.1 (eQ cl x u id ou).length s.2.2, b1, .bool cl] :: M) := by
  have hwo := aR.1 hx
  obtain ⟨hb0, hb1⟩ := mE hx hu0 hu1
  obtain ⟨n, hn⟩ : ∃ n, db x u = n := ⟨_, rfl⟩
  unfold eQ fL
  rw [hn] at hb0 hb1 ⊢
  refine bv hM Tryz.func60 rfl Tryz.ntmps60 J J ?_
  repeat' (first | refine bc ?_ | refine aH ?_ | refine bB ?_ | refine co ?_ | ((refine' dZ rfl ?_ J J ?_); rotate_left; first | exact aI af J J J J | exact bw af J J J J J J | exact ew J J J J J | exact ab af 1 J J J J J) | refine bg rfl (ap J J J J ⟨J, J, trivial⟩ rfl (by kernel_rfl)) (fun w hm => Cl x u n hn w ⟨hu0, by omega⟩ ⟨by omega, by omega⟩) J J ?_)
  by_cases hg : cl = true ∨ n ≤ 0
  · rw [if_pos hg, if_pos hg]
    refine aq rfl (by simpa using hg) ?_
    repeat' (first | refine cL ?_ | refine bk ?_)
    (refine aO af (fun _ => 0) J J trivial rfl fun w1 hm => ?_)
    exact ⟨(_, o, oc), trivial, rfl, hm⟩
  · rw [if_neg hg, if_neg hg]
    refine ai rfl (by
      cases h : (cl || decide (n ≤ 0)) with
      | false => rfl
      | true => exact absurd (by simpa using h) hg) ?_
    repeat' (first | refine bc ?_ | refine aH ?_ | refine bB ?_ | refine cJ ?_ | refine co ?_ | (refine cE af J J J ⟨J, trivial⟩ J J J J J J J J ?_; intro g) | (refine bA af 1 0 J J J J J J J J J (fun _ _ => rfl) lw J J (by unfold maxLen; omega) (by omega) J J ?_; intro sa sc) | ((refine' dZ rfl ?_ J J ?_); rotate_left; first | exact bd J J J J J (by omega) | exact gO J J J J J (by omega) | exact aI af J J J J | exact ab af 1 J J J J J | exact aj af J J ⟨J, J, J, trivial⟩ J J J) | refine aC af 1 J J J J J J J J J J J J ?_ | refine aC af 2 J J J J J J J J J J J J ?_)
    (refine bJ af (fun _ => 0) J J trivial rfl fun w1 hm => ?_)
    refine ⟨(_, sa, sc), trivial, rfl, ?_⟩
    have h1 := hm.mask [false, true, true] rfl
    rw [List.length_append, List.flatMap_append, List.flatMap_singleton]
    exact h1
theorem Ej {u : KV} {i : Nat} {x : Value} (h : [Value.int .i64 u.k.st.rcv.size, .int .i64 u.k.st.rcv.left, .int .i64 u.k.st.rcv.held][i]? = some x) : (KC u)[13 + i]? = some x := by
  match i, h with
  | 0, h => exact h
  | 1, h => exact h
  | 2, h => exact h
set_option maxRecDepth 100000 in
set_option maxHeartbeats 16000000 in
theorem Cm {w0 : World} {M : List Ent} (gc gx xc nn k : Nat) (a0 a1 a2 a3 a4 a5 a6 a7 a8 a9 a10 b0 b1 : Value) (cl : Bool) (kv : List KV) (u : KV) (hat : kv[k]? = some u) (o : Option Addr) (oc : Nat) (ou : List FrV) (id r : Int) (w : World) (hx : aS u.k.st.rcv = true) (hu0 : 0 ≤ r) (hu1 : r ≤ u.k.st.rcv.held) (hou : ou.length ≤ 2000000000) (hM : Mem w0 w (.own o oc 74 4 ou.length ((ou).flatMap fC) :: .own (some ⟨gx, 0, none⟩) xc 87 22 nn ((kv).flatMap KC) :: .cl gc 34 [a0, a1, a2, a3, a4, a5, a6, a7, a8, a9, a10, b0, .slice o ou.length oc, b1, .bool cl] :: M)) : Calls Tryz.prog 60 #[.pointer (some ⟨gc, 0, none⟩), .pointer (some ⟨gx, 0 + k * 22 + 13, none⟩), .int .i64 id, .int .i64 r] w fun e w' => ∃ s : Value × Option Addr × Nat, True ∧ e = .returned s.1 ∧ Mem w0 w' (.own s.2.1 s.2.2 74 4 (eQ cl u.k.st.rcv r id ou).length (((eQ cl u.k.st.rcv r id ou)).flatMap fC) :: .own (some ⟨gx, 0, none⟩) xc 87 22 nn ((kv.set k { u with k := { u.k with st := { u.k.st with rcv := fL cl u.k.st.rcv r } } }).flatMap KC) :: .cl gc 34 [a0, a1, a2, a3, a4, a5, a6, a7, a8, a9, a10, b0, .slice s.2.1 (eQ cl u.k.st.rcv r id ou).length s.2.2, b1, .bool cl] :: M) := by
  have hwo := aR.1 hx
  obtain ⟨hb0, hb1⟩ := mE hx hu0 hu1
  obtain ⟨n, hn⟩ : ∃ n, db u.k.st.rcv r = n := ⟨_, rfl⟩
  unfold eQ fL
  rw [hn] at hb0 hb1 ⊢
  refine bv hM Tryz.func60 rfl Tryz.ntmps60 J J ?_
  repeat' (first | refine bc ?_ | refine aH ?_ | ((refine' dZ rfl ?_ J J ?_); rotate_left; exact aI af J J J J))
  ((refine' dZ rfl ?_ J J ?_); rotate_left; exact fv af 1 (cs := [.int .i64 u.k.st.rcv.size, .int .i64 u.k.st.rcv.left, .int .i64 u.k.st.rcv.held]) J J J J J J (fun _ i x hx => by rw [Nat.zero_add, Nat.add_assoc]; exact aJ aK hat (Ej hx)))
  repeat' (first | refine bc ?_ | refine aH ?_ | refine bB ?_ | refine co ?_ | ((refine' dZ rfl ?_ J J ?_); rotate_left; first | exact aI af J J J J | exact bw af J J J J J J | exact ew J J J J J | exact ab af 2 J J J J J) | refine bg rfl (ap J J J J ⟨J, J, trivial⟩ rfl (by kernel_rfl)) (fun w hm => Cl u.k.st.rcv r n hn w ⟨hu0, by omega⟩ ⟨by omega, by omega⟩) J J ?_)
  by_cases hg : cl = true ∨ n ≤ 0
  · rw [if_pos hg, if_pos hg]
    refine aq rfl (by simpa using hg) ?_
    repeat' (first | refine cL ?_ | refine bk ?_)
    (refine aO af (fun _ => 0) J J trivial rfl fun w1 hm => ?_)
    refine ⟨(_, o, oc), trivial, rfl, ?_⟩
    rw [show kv.set k u = kv by obtain ⟨h1, h2⟩ := List.getElem?_eq_some_iff.1 hat; rw [← h2]; exact List.set_getElem_self h1]
    exact hm
  · rw [if_neg hg, if_neg hg]
    refine ai rfl (by
      cases h : (cl || decide (n ≤ 0)) with
      | false => rfl
      | true => exact absurd (by simpa using h) hg) ?_
    repeat' (first | refine bc ?_ | refine aH ?_ | refine bB ?_ | refine cJ ?_ | ((refine' dZ rfl ?_ J J ?_); rotate_left; exact aI af J J J J))
    ((refine' dZ rfl ?_ J J ?_); rotate_left; exact bM af 1 (v := .int .i64 u.k.st.rcv.left) J J J J J J (fun _ => by rw [Nat.zero_add]; exact aJ aK hat (k := 14) rfl))
    repeat' (((refine' dZ rfl ?_ J J ?_); rotate_left; first | exact bd J J J J J (by omega) | exact aI af J J J J))
    refine cF af 1 J J J J J J J J J (show jv _ (0 + k * 22 + 14) _ = _ from by rw [Nat.zero_add]; exact cy aK (kv) k 14 (u) ({ u with k := { u.k with st := { u.k.st with rcv := ⟨u.k.st.rcv.size, u.k.st.rcv.left + n, u.k.st.rcv.held⟩ } } }) _ hat rfl) J J ?_
    repeat' (first | refine bc ?_ | refine aH ?_ | refine bB ?_ | refine co ?_ | ((refine' dZ rfl ?_ J J ?_); rotate_left; exact aI af J J J J))
    have hat1 : (kv.set k { u with k := { u.k with st := { u.k.st with rcv := ⟨u.k.st.rcv.size, u.k.st.rcv.left + n, u.k.st.rcv.held⟩ } } })[k]? = some { u with k := { u.k with st := { u.k.st with rcv := ⟨u.k.st.rcv.size, u.k.st.rcv.left + n, u.k.st.rcv.held⟩ } } } := dH hat _
    ((refine' dZ rfl ?_ J J ?_); rotate_left; exact bM af 1 (v := .int .i64 u.k.st.rcv.held) J J J J J J (fun _ => by rw [Nat.zero_add]; exact aJ aK hat1 (k := 15) rfl))
    repeat' (((refine' dZ rfl ?_ J J ?_); rotate_left; first | exact gO J J J J J (by omega) | exact aI af J J J J))
    refine cF af 1 J J J J J J J J J (show jv _ (0 + k * 22 + 15) _ = _ from by rw [Nat.zero_add]; exact cy aK (kv.set k { u with k := { u.k with st := { u.k.st with rcv := ⟨u.k.st.rcv.size, u.k.st.rcv.left + n, u.k.st.rcv.held⟩ } } }) k 15 ({ u with k := { u.k with st := { u.k.st with rcv := ⟨u.k.st.rcv.size, u.k.st.rcv.left + n, u.k.st.rcv.held⟩ } } }) ({ u with k := { u.k with st := { u.k.st with rcv := wo u.k.st.rcv n } } }) _ hat1 rfl) J J ?_
    rw [List.set_set]
    repeat' (first | refine aH ?_ | refine bB ?_ | refine co ?_ | (refine cE af J J J ⟨J, trivial⟩ J J J J J J J J ?_; intro g) | (refine bA af 1 0 J J J J J J J J J (fun _ _ => rfl) lw J J (by unfold maxLen; omega) (by omega) J J ?_; intro sa sc) | ((refine' dZ rfl ?_ J J ?_); rotate_left; first | exact aI af J J J J | exact ab af 2 J J J J J | exact aj af J J ⟨J, J, J, trivial⟩ J J J) | refine aC af 3 J J J J J J J J J J J J ?_)
    (refine bJ af (fun _ => 0) J J trivial rfl fun w1 hm => ?_)
    refine ⟨(_, sa, sc), trivial, rfl, ?_⟩
    have h1 := hm.mask [false, true, true, true] rfl
    rw [List.length_append, List.flatMap_append, List.flatMap_singleton]
    exact h1
end Go.Proofs.YtklcfjlmlbnkaaaGreatDoor.Y
