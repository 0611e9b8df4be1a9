/- Texts of this claim merged into one: QCn18, QRegYC, QCn19. -/
import Derived.Test.YthiocbcokfondaaGreatDoorQBunC9
import Derived.Test.YthiocbcokfondaaGreatDoorQBunX
import Derived.Test.YthiocbcokfondaaGreatDoorQBunQ
import Derived.Test.YthiocbcokfondaaGreatDoorQBunY
namespace Go.Proofs.YthiocbcokfondaaGreatDoor.Y
open Go.RowKit
def FK (l : List KV) (b : Nat) : Prop := ∃ e ∈ l.flatMap EK, e.foot b
theorem eg {w : World} {B cap sz : Nat} {T : TypeId} {a : Option Addr} {xs : List Value} {α : Type} {f : α → List Value} {l : List α} (hf : ∀ x, (f x).length = sz) (h : w.ownsRow B T sz (.slice a l.length cap) l.length xs) (he : xs = l.flatMap f) : Rws (fun b => (Ent.own a cap T sz l.length xs).foot b) w sz f a l := by
  subst he
  exact (yR hf h).mono fun b ⟨ad, h1, h2⟩ => by subst h1; exact Ent.mut_foot (e := .own (some ad) cap T sz l.length (l.flatMap f)) (by exact h2)
theorem zY {w0 w : World} {a b c : Ent} {l : List KV} {M : List Ent} (h : Mem w0 w (a :: b :: c :: (l.flatMap EK ++ M))) : ∀ k, FK l k → w0.heap.size ≤ k := fun k ⟨e, he, hk⟩ => by
  have h1 : MemL w0.heap.size w (l.flatMap EK) := (MemL.split (M1 := l.flatMap EK) h.2.2.2.2.2.2.2).1
  have hok := MemL.mem h1 e he
  have hr := vd l e he
  cases e with
  | rep F p => cases hr
  | obj g o => exact (hok.mut_lt (k := k) hk).1
  | own a cap e size n xs => exact (hok.mut_lt (k := k) hk).1
theorem Ci {w : World} {B : Nat} {l : List KV} (h : MemL B w (l.flatMap EK)) : ∀ u ∈ l, KOk (FK l) w u := fun u hu => by
  have h1 := pb h hu
  have hm : ∀ e ∈ EK u, e ∈ l.flatMap EK := fun e he => List.mem_flatMap.2 ⟨u, hu, he⟩
  refine ⟨(eg iI h1.1 rfl).mono fun b hb => ⟨_, hm _ (List.mem_cons_self ..), hb⟩, (eg cT h1.2.2.2.2.1 rfl).mono fun b hb => ⟨_, hm _ (List.mem_cons_of_mem _ (List.mem_cons_of_mem _ (List.mem_cons_self ..))), hb⟩, (eg fh h1.2.2.1 rfl).mono fun b hb => ⟨_, hm _ (List.mem_cons_of_mem _ (List.mem_cons_self ..)), hb⟩⟩
theorem rW {w0 w : World} {a b c : Ent} {l : List KV} {M : List Ent} (h : Mem w0 w (a :: b :: c :: (l.flatMap EK ++ M))) : Mem w0 w (a :: b :: c :: .rep (FK l) (fun w => ∀ u ∈ l, KOk (FK l) w u) :: M) := by
  have h1 : Mem w0 w (l.flatMap EK ++ ([a, b, c] ++ M)) := h.perm (by
    rw [show a :: b :: c :: (l.flatMap EK ++ M) = [a, b, c] ++ (l.flatMap EK ++ M) from rfl, ← List.append_assoc, ← List.append_assoc]
    exact List.Perm.append_right _ List.perm_append_comm)
  have h2 := Mem.fuse (l.flatMap EK) (FK l) (fun w => ∀ u ∈ l, KOk (FK l) w u) h1 rfl (fun k hk => hk) (fun hm => Ci hm) (fun w1 w2 hk hp u hu => (hp u hu).agree hk)
  exact h2.perm (List.perm_middle (l₁ := [a, b, c]) (l₂ := M)).symm
theorem rX {A : Nat → Prop} {w w1 : World} {v' : NV} (hb : Below w.heap.size w w1) (hks : w1.ownsRow w.heap.size 39 22 (.slice v'.x v'.kv.length v'.xc) v'.kv.length (v'.kv.flatMap KC)) (hou : w1.ownsRow w.heap.size 65 4 (.slice v'.o v'.c.ou.length v'.oc) v'.c.ou.length (v'.c.ou.flatMap fC)) (hpg : w1.ownsRow w.heap.size 3 1 (.slice v'.p v'.c.pg.length v'.pc) v'.c.pg.length (v'.c.pg.flatMap iC)) (heq : v'.c.ks = v'.kv.map (·.k)) (hkk : ∀ u ∈ v'.kv, KOk (fun b => w.heap.size ≤ b) w1 u) : OutN A w w1 v' :=
  ⟨⟨(Rws.own bi hks).mono fun _ => .inr, (Rws.own fh hou).mono fun _ => .inr, (Rws.own gA hpg).mono fun _ => .inr, heq, fun u hu => (hkk u hu).mono fun _ => .inr⟩, hb⟩
def iK (above : Int) (u : KV) : KV := if u.k.st.done = false ∧ above < u.k.st.id then gD { u with k := { u.k with st := ti u.k.st 12 emptyB } } else u
theorem vu (above : Int) (u : KV) : (iK above u).k = gz above u.k := by
  unfold iK gz
  split
  · rw [rP]
  · rfl
theorem pD {A : Nat → Prop} {w : World} {u : KV} (h : KOk A w u) : KOk A w (gD u) := by
  unfold gD
  split
  · exact ⟨h.1, h.2.1, dr⟩
  · exact h
theorem rY {A : Nat → Prop} {w : World} {above : Int} {u : KV} (h : KOk A w u) : KOk A w (iK above u) := by
  unfold iK
  split
  · exact pD ⟨h.1, h.2.1, h.2.2⟩
  · exact h
theorem EY (s t : cx) (h : ti s 12 emptyB = t) (w : World) (htx : s.text.size ≤ 4611686018427387900) : Calls Tryz.prog 127 #[.agg #[.int .i64 s.id, .int .i64 s.side, .int .i64 s.shape, .int .i64 s.sent, .int .i64 s.got, .bool s.se, .bool s.ge, .bool s.done, .int .i64 s.code, .string s.text, .int .i64 s.snd.size, .int .i64 s.snd.left, .int .i64 s.snd.held, .int .i64 s.rcv.size, .int .i64 s.rcv.left, .int .i64 s.rcv.held], .agg #[.int .i64 12, .string ⟨#[]⟩]] w fun e w' => e = .returned (.agg ⟨tC t⟩) ∧ Below w.heap.size w w' := by
  subst h
  exact Bx s.id s.side s.shape s.sent s.got s.se s.ge s.done s.code s.text s.snd.size s.snd.left s.snd.held s.rcv.size s.rcv.left s.rcv.held 12 ⟨#[]⟩ w htx (by decide)
theorem rZ {u : KV} {i : Nat} {x : Value} (h : (tC u.k.st)[i]? = some x) : (KC u)[i]? = some x := by
  have hi : i < (tC u.k.st).length := (List.getElem?_eq_some_iff.1 h).1
  have e : KC u = tC u.k.st ++ (KC u).drop 16 := rfl
  rw [e, List.getElem?_append_left hi]
  exact h
attribute [local irreducible] Calls
set_option maxRecDepth 100000 in
set_option maxHeartbeats 16000000 in
theorem pE {w0 : World} {M : List Ent} (gc : Nat) (xa : Option Addr) (xc : Nat) (a0 a1 a2 a3 a4 a5 a6 a7 a8 a9 a10 b0 b1 b2 : Value) (kv : List KV) (above : Int) (w : World) (hzk : kv.length ≤ 606626243774) (htx : ∀ u ∈ kv, u.k.st.text.size ≤ 4611686018427387900) (hM : Mem w0 w (.own xa xc 39 22 kv.length (kv.flatMap KC) :: .cl gc 28 [a0, a1, a2, a3, a4, a5, a6, a7, a8, a9, a10, .slice xa kv.length xc, b0, b1, b2] :: M)) : Calls Tryz.prog 67 #[.pointer (some ⟨gc, 0, none⟩), .int .i64 above] w fun e w' => ∃ r : Value, True ∧ e = .returned r ∧ Mem w0 w' (.own xa xc 39 22 kv.length ((kv.map (iK above)).flatMap KC) :: .cl gc 28 [a0, a1, a2, a3, a4, a5, a6, a7, a8, a9, a10, .slice xa kv.length xc, b0, b1, b2] :: M) := by
  refine cj hM Tryz.func67 rfl Tryz.ntmps67 J J ?_
  repeat' (first | refine ai ?_ | refine aa ?_ | refine ab ?_ | refine aJ ?_ | refine ag ?_ | ((refine' am rfl ?_ J J ?_); rotate_left; first | exact ak af J J J J | exact ae af 1 J J J J J | exact bh af J J J J J J J))
  refine cK (σ := Nat × List KV) (fun p => p.1 ≤ kv.length ∧ p.2.length = p.1 ∧ p.2 = (kv.take p.1).map (iK above)) (fun p => [(11, [], .int .i64 ((p.1 : Nat) : Int)), (10, [], .int .i64 ((kv.length : Nat) : Int)), (0, [], .pointer (some ⟨gc, 0, none⟩)), (1, [], .int .i64 above)]) (fun p => .own xa xc 39 22 kv.length ((p.2 ++ kv.drop p.1).flatMap KC) :: .cl gc 28 [a0, a1, a2, a3, a4, a5, a6, a7, a8, a9, a10, .slice xa kv.length xc, b0, b1, b2] :: M) (fun p => kv.length - p.1) (0, []) [true, true] ⟨Nat.zero_le _, rfl, rfl⟩ ⟨J, J, J, J, trivial⟩ rfl ?_
  rintro ⟨j, d⟩ ⟨hj0, hd, hmap⟩
  dsimp only at hj0 hd hmap ⊢
  by_cases hj : j < kv.length
  · obtain ⟨u, hu0⟩ : ∃ u, kv[j]? = some u := ⟨kv[j], List.getElem?_eq_getElem hj⟩
    have hu := List.mem_of_getElem? hu0
    have hat := yO hd hu0
    have htx0 := htx u hu
    have hn0 : 0 < kv.length := Nat.lt_of_le_of_lt (Nat.zero_le _) hj
    refine ai ?_
    refine aa ?_
    refine mI 0 rfl hn0 ?_
    rintro gx rfl
    repeat' (first | refine ai ?_ | refine ab ?_ | refine ag ?_ | ((refine' am rfl ?_ J J ?_); rotate_left; exact aq af J J J J J J))
    refine aB rfl (show decide (((j : Nat) : Int) < ((kv.length : Nat) : Int)) = true from decide_eq_true (by omega)) ?_
    repeat' (first | refine ai ?_ | refine aa ?_ | refine ab ?_ | refine ay ?_ | refine aJ ?_ | refine ag ?_ | ((refine' am rfl ?_ J J ?_); rotate_left; first | exact cm af (m := 22) j J J J J J J J J (fun _ => rfl) (fun _ => hj) | exact ak af J J J J | exact ae af 1 J J J J J))
    ((refine' am rfl ?_ J J ?_); rotate_left; exact cC af 0 (v := .bool u.k.st.done) J J J J J J (fun _ => by rw [Nat.zero_add]; exact bk bi hat (k := 7) rfl))
    repeat' (((refine' am rfl ?_ J J ?_); rotate_left; exact ak af J J J J))
    ((refine' am rfl ?_ J J ?_); rotate_left; exact cC af 0 (v := .int .i64 u.k.st.id) J J J J J J (fun _ => by rw [Nat.zero_add]; exact bk bi hat (k := 0) rfl))
    repeat' (first | refine ab ?_ | refine ag ?_ | ((refine' am rfl ?_ J J ?_); rotate_left; first | exact ak af J J J J | exact aq af J J J J J J | exact bK J J J J J))
    by_cases hc : u.k.st.done = false ∧ above < u.k.st.id
    · obtain ⟨t, ht⟩ : ∃ t, ti u.k.st 12 emptyB = t := ⟨_, rfl⟩
      have hev : iK above u = gD { u with k := { u.k with st := t } } := by unfold iK; rw [if_pos hc, ht]
      refine aB rfl (by rw [hc.1]; simp; exact hc.2) ?_
      repeat' (first | refine ai ?_ | refine aa ?_ | ((refine' am rfl ?_ J J ?_); rotate_left; first | exact jp af 0 (cs := tC u.k.st) J J J J J J (fun _ i x hx => by rw [Nat.zero_add, Nat.add_zero]; exact bk bi hat (rZ hx)) | exact ak af J J J J | exact ap af J J ⟨J, trivial⟩ J J J) | refine aK rfl (av J J J J ⟨J, J, trivial⟩ rfl (by kernel_rfl)) (fun w hm => EY u.k.st t ht w htx0) J J ?_)
      refine dk af 0 J J J J J J J J J (show jo _ (0 + j * 22 + 0) _ = _ from by rw [Nat.zero_add]; exact cW bi (d ++ kv.drop j) j 0 (u) ({ u with k := { u.k with st := t } }) _ hat rfl) J J ?_
      repeat' (first | refine aa ?_ | refine ab ?_ | refine ag ?_ | ((refine' am rfl ?_ J J ?_); rotate_left; exact ak af J J J J))
      have hat1 : ((d ++ kv.drop j).set j { u with k := { u.k with st := t } })[j]? = some { u with k := { u.k with st := t } } := en hat _
      refine bz (σ := Value) (fun _ => True) (fun r => r) (fun _ => _) rfl (av J J J J ⟨J, trivial⟩ rfl (by kernel_rfl)) (fun w hM => (kH gx xc kv.length j ((d ++ kv.drop j).set j { u with k := { u.k with st := t } }) { u with k := { u.k with st := t } } hat1 w hM).mono fun e w' ⟨r, h1, h2, h3⟩ => ⟨r, trivial, h2, h3⟩) J J ?_
      rintro rv -
      rw [List.set_set, ← hev, vR hd hu0]
      repeat' (first | refine aa ?_ | refine ab ?_ | refine ax ?_ | refine ag ?_ | ((refine' am rfl ?_ J J ?_); rotate_left; first | exact bN J J J J J (by omega) | exact ak af J J J J))
      exact bA (j + 1, d ++ [iK above u]) [] ⟨hj, by simp [hd], by rw [List.take_add_one, hu0]; simp [hmap]⟩ (show kv.length - (j + 1) < kv.length - j by omega) ⟨J, J, J, J, trivial⟩ rfl
    · have hev : iK above u = u := by unfold iK; rw [if_neg hc]
      refine ar rfl (by
        cases h1 : u.k.st.done with
        | true => rfl
        | false => simp; exact Int.not_lt.1 (fun h => hc ⟨h1, h⟩)) ?_
      repeat' (first | refine aa ?_ | refine ab ?_ | refine ay ?_ | refine ax ?_ | refine ag ?_ | ((refine' am rfl ?_ J J ?_); rotate_left; first | exact bN J J J J J (by omega) | exact ak af J J J J))
      refine fU (M' := .own (some ⟨gx, 0, none⟩) xc 39 22 kv.length ((((j + 1, d ++ [iK above u]) : Nat × List KV).2 ++ kv.drop ((j + 1, d ++ [iK above u]) : Nat × List KV).1).flatMap KC) :: .cl gc 28 [a0, a1, a2, a3, a4, a5, a6, a7, a8, a9, a10, .slice (some ⟨gx, 0, none⟩) kv.length xc, b0, b1, b2] :: M) (fun w hM => ?_) ?_
      · have e : d ++ [iK above u] ++ kv.drop (j + 1) = d ++ kv.drop j := by rw [hev, List.append_assoc, eJ hu0]; rfl
        dsimp only
        rw [e]
        exact hM
      · exact bA (j + 1, d ++ [iK above u]) [] ⟨hj, by simp [hd], by rw [List.take_add_one, hu0]; simp [hmap]⟩ (show kv.length - (j + 1) < kv.length - j by omega) ⟨J, J, J, J, trivial⟩ rfl
  · have hjl : j = kv.length := by omega
    subst hjl
    repeat' (first | refine ai ?_ | refine aa ?_ | refine ab ?_ | refine ag ?_ | ((refine' am rfl ?_ J J ?_); rotate_left; exact aq af J J J J J J))
    refine ar rfl (by simp) ?_
    repeat' (first | refine bq ?_ | refine aN ?_ | refine aT ?_)
    (refine dU af (fun _ => 0) J J trivial rfl fun w1 hm => ?_)
    refine ⟨_, trivial, rfl, ?_⟩
    rw [hmap, List.take_length, List.drop_length, List.append_nil] at hm
    exact hm
set_option maxRecDepth 100000 in
set_option maxHeartbeats 16000000 in
theorem vw {A : Nat → Prop} (v : NV) (w : World) (hN : NOk A w v) (hz : yS v) (hgd : Cc v) : Calls Tryz.prog 23 #[.agg #[.int .i64 v.c.sd, .int .i64 v.c.nx, .int .i64 v.c.la, .int .i64 v.c.aw, .int .i64 v.c.sz, .int .i64 v.c.sw.size, .int .i64 v.c.sw.left, .int .i64 v.c.sw.held, .int .i64 v.c.rw.size, .int .i64 v.c.rw.left, .int .i64 v.c.rw.held, .slice v.x v.kv.length v.xc, .slice v.o v.c.ou.length v.oc, .slice v.p v.c.pg.length v.pc, .bool v.c.cl]] w fun e w' => ∃ v' : NV, v'.c = kR v.c ∧ e = .returned (.agg ⟨NC v'⟩) ∧ OutN A w w' v' := by
  refine aQ Tryz.func23 rfl Tryz.ntmps23 J J ?_
  have hzk := hz.ks
  repeat' (first | refine ai ?_ | refine aa ?_ | refine ab ?_ | refine ag ?_ | (refine aV J J J J J J ?_; intro g1) | (refine aG af J J J J J J ?_; intro g2) | ((refine' am rfl ?_ J J ?_); rotate_left; exact ae af 1 J J J J J))
  refine eC (σ := NV) (fun s => s.c = v.c ∧ s.kv.map (·.k) = v.kv.map (·.k)) (fun s => .agg ⟨NC s⟩) (fun s => EN s) rfl (av J J J J ⟨J, trivial⟩ rfl (by kernel_rfl)) (fun w1 hm => hY v w1 (hN.below hm.below) hz) J J ?_
  rintro ⟨c1, x1, xc1, kv1, o1, oc1, p1, pc1⟩ ⟨hc1, hkm⟩
  dsimp only at hc1 hkm
  subst hc1
  dsimp only [EN, NC, List.cons_append, List.nil_append]
  refine fV (fun w1 hm => zY hm) (fun hFK => ?_)
  refine de (fun w1 hm => rW hm) ?_
  have hlk : kv1.length = v.kv.length := pf hkm
  have htx : ∀ u ∈ kv1, u.k.st.text.size ≤ 4611686018427387900 := fun u hu => by
    have h1 : u.k ∈ v.kv.map (·.k) := by rw [← hkm]; exact List.mem_map_of_mem hu
    obtain ⟨u0, hu0, e0⟩ := List.mem_map.1 h1
    rw [← e0]
    exact hgd.tx u0 hu0
  repeat' (first | refine ai ?_ | refine aa ?_ | refine ab ?_ | refine ag ?_ | (refine aG af J J J J J J ?_; intro g3) | ((refine' am rfl ?_ J J ?_); rotate_left; exact ak af J J J J) | refine aj af 0 J J J J J J J J J J J J ?_)
  refine de (fun w1 hm => hm.perm (List.perm_middle (l₁ := [_, _, _]))) ?_
  dsimp only [List.cons_append, List.nil_append]
  refine bz (σ := Value) (fun _ => True) (fun r => r) (fun _ => _) rfl (av J J J J ⟨J, J, trivial⟩ rfl (by kernel_rfl)) (fun w1 hM => (pE g3 x1 xc1 _ _ _ _ _ _ _ _ _ _ _ _ _ _ kv1 0 w1 (by omega) htx hM).mono fun e w' ⟨r, h1, h2, h3⟩ => ⟨r, trivial, h2, h3⟩) J J ?_
  rintro rv -
  repeat' (first | refine ai ?_ | refine aa ?_ | refine ab ?_ | refine aA ?_ | refine ag ?_ | ((refine' am rfl ?_ J J ?_); rotate_left; exact ae af 1 J J J J J) | refine aj af 5 J J J J J J J J J J J J ?_)
  (refine aC af (fun _ => 5) J J ⟨J, trivial⟩ rfl fun w1 hm => ⟨⟨kR v.c, x1, xc1, kv1.map (iK 0), none, 0, p1, pc1⟩, rfl, ?_, ?_⟩)
  · simp only [List.length_map]; rfl
  · refine rX hm.below (by rw [List.length_map]; exact hm.2.get (i := 0) rfl) (World.ownsRow_nil _ _ _ _) (hm.2.get (i := 2) rfl) ?_ (fun u hu => ?_)
    · show v.c.ks.map (gz 0) = (kv1.map (iK 0)).map (·.k)
      rw [hN.eq, ← hkm, List.map_map, List.map_map]
      exact List.map_congr_left fun u _ => (vu 0 u).symm
    · obtain ⟨u0, hu0, rfl⟩ := List.mem_map.1 hu
      exact rY (((hm.2.get (i := 4) rfl).2.1 u0 hu0).mono hFK)
end Go.Proofs.YthiocbcokfondaaGreatDoor.Y
namespace Go.Proofs.YthiocbcokfondaaGreatDoor.Y
open Go.RowKit
section
variable {P : Program} {T : fJ} {l0 rest : List Oper} {Z : Act → World → Prop} {Q : Exit → Act → World → Prop} {n : Nat} {w0 : World} {S : bJ} {M M' M2 : List Ent} {p : World → Prop} {L : Cd} {o : Oper} {d : Nat}
theorem nM {f : FuncId} {args : List Value} {v : Value} (hg : o.guard = none) (ho : fc P S [] o f args) (hk : (xu o.op).pure = false) (hk2 : (xu o.op).read = false) (hc : ∀ w, Mem w0 w M → Calls P f ⟨args⟩ w fun e w' => e = .returned v ∧ Below w.heap.size w w')
    (hM' : ∀ w, Mem w0 w M → Mem w0 w M' ∧ p w) (hd : o.dst = some d) (hn : Nat.blt d n = true) (h : SY P l0 Z rest n w0 M' p ((d, [], v) :: S) M) : SY P l0 Z (o :: rest) n w0 M' p S M := by
  have hdn : d < n := Nat.le_of_ble_eq_true hn
  refine ⟨fun a w hS hM => bd (by unfold Region.wanted; rw [hg]) hk hk2 fun K hK => ?_⟩
  refine Vals.wp (R := fun v' w' => v' = v ∧ Mem w0 w' M) rfl (dz (ho.ok n a w hS rfl) ((hc w hM).mono fun e w' ⟨h1, h2⟩ => ⟨v, h1, rfl, hM.keep h2⟩)) (fun v' w' ⟨hv, hm⟩ => hK _ _ ⟨hM' _ hm, h.run _ _ ?_ hm⟩)
  subst hv
  rw [hd]; exact hS.put hdn (by simp [aF])
theorem gk {σ : Type} {f : FuncId} {args : List Value} (Φ : σ → Prop) (V : σ → Value) (N : σ → List Ent) (hg : o.guard = none) (ho : fc P S [] o f args)
    (hc : ∀ w, Mem w0 w M → Calls P f ⟨args⟩ w fun e w' => ∃ s, Φ s ∧ e = .returned (V s) ∧ Mem w0 w' (N s)) (hd : o.dst = some d) (hn : Nat.blt d n = true)
    (h : ∀ s, Φ s → SQ Q .normal n w0 ((d, [], V s) :: S) (N s)) : SY P l0 (iY P l0.toArray o (Q .normal)) [] n w0 M' p S M := by
  have hdn : d < n := Nat.le_of_ble_eq_true hn
  refine ⟨fun a w hS hM => db (iZ (by unfold Region.wanted; rw [hg]) fun K hK => ?_)⟩
  refine Vals.wp (R := fun v' w' => ∃ s, Φ s ∧ v' = V s ∧ Mem w0 w' (N s)) rfl (dz (ho.ok n a w hS rfl) ((hc w hM).mono fun e w' ⟨s, h1, h2, h3⟩ => ⟨V s, h2, s, h1, rfl, h3⟩)) (fun v' w' ⟨s, h1, hv, hm⟩ => hK _ _ ((h s h1).run _ _ ?_ hm))
  subst hv
  rw [hd]; exact hS.put hdn (by simp [aF])
end
end Go.Proofs.YthiocbcokfondaaGreatDoor.Y
namespace Go.Proofs.YthiocbcokfondaaGreatDoor.Y
open Go.RowKit
def gl (cl : Bool) (x : bj) (u : Int) : bj := if cl = true ∨ bI x u ≤ 0 then x else tl x (bI x u)
def fv (cl : Bool) (x : bj) (u id : Int) (l : List aY) : List aY := if cl = true ∨ bI x u ≤ 0 then l else l ++ [⟨6, id, bI x u, emptyB⟩]
theorem jh (c : NL) : gbC c = { c with rw := gl c.cl c.rw (be c.ks), ou := fv c.cl c.rw (be c.ks) 0 c.ou } := by
  unfold gbC gl fv
  split <;> rfl
theorem xJ {cl : Bool} {x : bj} {u id : Int} {l : List aY} : (fv cl x u id l).length ≤ l.length + 1 := by
  unfold fv
  split
  · exact Nat.le_succ _
  · rw [List.length_append, List.length_singleton]; exact Nat.le_refl _
theorem zZ (x : bj) (u n : Int) (h : bI x u = n) (w : World) (hu : 0 ≤ u ∧ u ≤ 4611686018427387904) (hh : 0 ≤ x.held ∧ x.held ≤ 4611686018427387904) : Calls Tryz.prog 163 #[.agg #[.int .i64 x.size, .int .i64 x.left, .int .i64 x.held], .int .i64 u] w fun e w' => e = .returned (.int .i64 n) ∧ Below w.heap.size w w' := by
  subst h
  exact xq x u w hu hh
attribute [local irreducible] Calls
set_option maxRecDepth 100000 in
set_option maxHeartbeats 16000000 in
theorem kg {w0 : World} {M : List Ent} (gc : Nat) (a0 a1 a2 a3 a4 a5 a6 a7 b0 b1 : Value) (cl : Bool) (x : bj) (o : Option Addr) (oc : Nat) (ou : List aY) (id u : Int) (w : World) (hx : bl x = true) (hu0 : 0 ≤ u) (hu1 : u ≤ x.held) (hou : ou.length ≤ 2000000000) (hM : Mem w0 w (.own o oc 65 4 ou.length ((ou).flatMap fC) :: .cl gc 28 [a0, a1, a2, a3, a4, a5, a6, a7, .int .i64 x.size, .int .i64 x.left, .int .i64 x.held, b0, .slice o ou.length oc, b1, .bool cl] :: M)) : Calls Tryz.prog 102 #[.pointer (some ⟨gc, 0, none⟩), .pointer (some ⟨gc, 0 + 8, none⟩), .int .i64 id, .int .i64 u] w fun e w' => ∃ s : Value × Option Addr × Nat, True ∧ e = .returned s.1 ∧ Mem w0 w' (.own s.2.1 s.2.2 65 4 (fv cl x u id ou).length (((fv cl x u id ou)).flatMap fC) :: .cl gc 28 [a0, a1, a2, a3, a4, a5, a6, a7, .int .i64 (gl cl x u).size, .int .i64 (gl cl x u).left, .int .i64 (gl cl x u).held, b0, .slice s.2.1 (fv cl x u id ou).length s.2.2, b1, .bool cl] :: M) := by
  have hwo := aX.1 hx
  obtain ⟨hb0, hb1⟩ := kK hx hu0 hu1
  obtain ⟨n, hn⟩ : ∃ n, bI x u = n := ⟨_, rfl⟩
  unfold fv gl
  rw [hn] at hb0 hb1 ⊢
  refine cj hM Tryz.func102 rfl Tryz.ntmps102 J J ?_
  repeat' (first | refine ai ?_ | refine aa ?_ | refine ab ?_ | refine ag ?_ | ((refine' am rfl ?_ J J ?_); rotate_left; first | exact ak af J J J J | exact aq af J J J J J J | exact bL J J J J J | exact ae af 1 J J J J J) | refine aK rfl (av J J J J ⟨J, J, trivial⟩ rfl (by kernel_rfl)) (fun w hm => zZ x u n hn w ⟨hu0, by omega⟩ ⟨by omega, by omega⟩) J J ?_)
  by_cases hg : cl = true ∨ n ≤ 0
  · rw [if_pos hg, if_pos hg]
    refine aB rfl (by simpa using hg) ?_
    repeat' (first | refine aA ?_ | refine au ?_)
    (refine aC af (fun _ => 0) J J trivial rfl fun w1 hm => ?_)
    exact ⟨(_, o, oc), trivial, rfl, hm⟩
  · rw [if_neg hg, if_neg hg]
    refine ar rfl (by
      cases h : (cl || decide (n ≤ 0)) with
      | false => rfl
      | true => exact absurd (by simpa using h) hg) ?_
    repeat' (first | refine ai ?_ | refine aa ?_ | refine ab ?_ | refine ay ?_ | refine ag ?_ | (refine di af J J J ⟨J, trivial⟩ J J J J J J J J ?_; intro g) | (refine ce af 1 0 J J J J J J J J J (fun _ _ => rfl) kS J J (by unfold maxLen; omega) (by omega) J J ?_; intro sa sc) | ((refine' am rfl ?_ J J ?_); rotate_left; first | exact bN J J J J J (by omega) | exact rd J J J J J (by omega) | exact ak af J J J J | exact ae af 1 J J J J J | exact ap af J J ⟨J, J, J, trivial⟩ J J J) | refine aj af 1 J J J J J J J J J J J J ?_ | refine aj af 2 J J J J J J J J J J J J ?_)
    (refine dU af (fun _ => 0) J J trivial rfl fun w1 hm => ?_)
    refine ⟨(_, sa, sc), trivial, rfl, ?_⟩
    have h1 := hm.mask [false, true, true] rfl
    rw [List.length_append, List.flatMap_append, List.flatMap_singleton]
    exact h1
theorem BM {u : KV} {i : Nat} {x : Value} (h : [Value.int .i64 u.k.st.rcv.size, .int .i64 u.k.st.rcv.left, .int .i64 u.k.st.rcv.held][i]? = some x) : (KC u)[13 + i]? = some x := by
  match i, h with
  | 0, h => exact h
  | 1, h => exact h
  | 2, h => exact h
set_option maxRecDepth 100000 in
set_option maxHeartbeats 16000000 in
theorem Aa {w0 : World} {M : List Ent} (gc gx xc nn k : Nat) (a0 a1 a2 a3 a4 a5 a6 a7 a8 a9 a10 b0 b1 : Value) (cl : Bool) (kv : List KV) (u : KV) (hat : kv[k]? = some u) (o : Option Addr) (oc : Nat) (ou : List aY) (id r : Int) (w : World) (hx : bl u.k.st.rcv = true) (hu0 : 0 ≤ r) (hu1 : r ≤ u.k.st.rcv.held) (hou : ou.length ≤ 2000000000) (hM : Mem w0 w (.own o oc 65 4 ou.length ((ou).flatMap fC) :: .own (some ⟨gx, 0, none⟩) xc 39 22 nn ((kv).flatMap KC) :: .cl gc 28 [a0, a1, a2, a3, a4, a5, a6, a7, a8, a9, a10, b0, .slice o ou.length oc, b1, .bool cl] :: M)) : Calls Tryz.prog 102 #[.pointer (some ⟨gc, 0, none⟩), .pointer (some ⟨gx, 0 + k * 22 + 13, none⟩), .int .i64 id, .int .i64 r] w fun e w' => ∃ s : Value × Option Addr × Nat, True ∧ e = .returned s.1 ∧ Mem w0 w' (.own s.2.1 s.2.2 65 4 (fv cl u.k.st.rcv r id ou).length (((fv cl u.k.st.rcv r id ou)).flatMap fC) :: .own (some ⟨gx, 0, none⟩) xc 39 22 nn ((kv.set k { u with k := { u.k with st := { u.k.st with rcv := gl cl u.k.st.rcv r } } }).flatMap KC) :: .cl gc 28 [a0, a1, a2, a3, a4, a5, a6, a7, a8, a9, a10, b0, .slice s.2.1 (fv cl u.k.st.rcv r id ou).length s.2.2, b1, .bool cl] :: M) := by
  have hwo := aX.1 hx
  obtain ⟨hb0, hb1⟩ := kK hx hu0 hu1
  obtain ⟨n, hn⟩ : ∃ n, bI u.k.st.rcv r = n := ⟨_, rfl⟩
  unfold fv gl
  rw [hn] at hb0 hb1 ⊢
  refine cj hM Tryz.func102 rfl Tryz.ntmps102 J J ?_
  repeat' (first | refine ai ?_ | refine aa ?_ | ((refine' am rfl ?_ J J ?_); rotate_left; exact ak af J J J J))
  ((refine' am rfl ?_ J J ?_); rotate_left; exact jp af 1 (cs := [.int .i64 u.k.st.rcv.size, .int .i64 u.k.st.rcv.left, .int .i64 u.k.st.rcv.held]) J J J J J J (fun _ i x hx => by rw [Nat.zero_add, Nat.add_assoc]; exact bk bi hat (BM hx)))
  repeat' (first | refine ai ?_ | refine aa ?_ | refine ab ?_ | refine ag ?_ | ((refine' am rfl ?_ J J ?_); rotate_left; first | exact ak af J J J J | exact aq af J J J J J J | exact bL J J J J J | exact ae af 2 J J J J J) | refine aK rfl (av J J J J ⟨J, J, trivial⟩ rfl (by kernel_rfl)) (fun w hm => zZ u.k.st.rcv r n hn w ⟨hu0, by omega⟩ ⟨by omega, by omega⟩) J J ?_)
  by_cases hg : cl = true ∨ n ≤ 0
  · rw [if_pos hg, if_pos hg]
    refine aB rfl (by simpa using hg) ?_
    repeat' (first | refine aA ?_ | refine au ?_)
    (refine aC af (fun _ => 0) J J trivial rfl fun w1 hm => ?_)
    refine ⟨(_, o, oc), trivial, rfl, ?_⟩
    rw [show kv.set k u = kv by obtain ⟨h1, h2⟩ := List.getElem?_eq_some_iff.1 hat; rw [← h2]; exact List.set_getElem_self h1]
    exact hm
  · rw [if_neg hg, if_neg hg]
    refine ar rfl (by
      cases h : (cl || decide (n ≤ 0)) with
      | false => rfl
      | true => exact absurd (by simpa using h) hg) ?_
    repeat' (first | refine ai ?_ | refine aa ?_ | refine ab ?_ | refine ay ?_ | ((refine' am rfl ?_ J J ?_); rotate_left; exact ak af J J J J))
    ((refine' am rfl ?_ J J ?_); rotate_left; exact cC af 1 (v := .int .i64 u.k.st.rcv.left) J J J J J J (fun _ => by rw [Nat.zero_add]; exact bk bi hat (k := 14) rfl))
    repeat' (((refine' am rfl ?_ J J ?_); rotate_left; first | exact bN J J J J J (by omega) | exact ak af J J J J))
    refine dk af 1 J J J J J J J J J (show jo _ (0 + k * 22 + 14) _ = _ from by rw [Nat.zero_add]; exact cW bi (kv) k 14 (u) ({ u with k := { u.k with st := { u.k.st with rcv := ⟨u.k.st.rcv.size, u.k.st.rcv.left + n, u.k.st.rcv.held⟩ } } }) _ hat rfl) J J ?_
    repeat' (first | refine ai ?_ | refine aa ?_ | refine ab ?_ | refine ag ?_ | ((refine' am rfl ?_ J J ?_); rotate_left; exact ak af J J J J))
    have hat1 : (kv.set k { u with k := { u.k with st := { u.k.st with rcv := ⟨u.k.st.rcv.size, u.k.st.rcv.left + n, u.k.st.rcv.held⟩ } } })[k]? = some { u with k := { u.k with st := { u.k.st with rcv := ⟨u.k.st.rcv.size, u.k.st.rcv.left + n, u.k.st.rcv.held⟩ } } } := en hat _
    ((refine' am rfl ?_ J J ?_); rotate_left; exact cC af 1 (v := .int .i64 u.k.st.rcv.held) J J J J J J (fun _ => by rw [Nat.zero_add]; exact bk bi hat1 (k := 15) rfl))
    repeat' (((refine' am rfl ?_ J J ?_); rotate_left; first | exact rd J J J J J (by omega) | exact ak af J J J J))
    refine dk af 1 J J J J J J J J J (show jo _ (0 + k * 22 + 15) _ = _ from by rw [Nat.zero_add]; exact cW bi (kv.set k { u with k := { u.k with st := { u.k.st with rcv := ⟨u.k.st.rcv.size, u.k.st.rcv.left + n, u.k.st.rcv.held⟩ } } }) k 15 ({ u with k := { u.k with st := { u.k.st with rcv := ⟨u.k.st.rcv.size, u.k.st.rcv.left + n, u.k.st.rcv.held⟩ } } }) ({ u with k := { u.k with st := { u.k.st with rcv := tl u.k.st.rcv n } } }) _ hat1 rfl) J J ?_
    rw [List.set_set]
    repeat' (first | refine aa ?_ | refine ab ?_ | refine ag ?_ | (refine di af J J J ⟨J, trivial⟩ J J J J J J J J ?_; intro g) | (refine ce af 1 0 J J J J J J J J J (fun _ _ => rfl) kS J J (by unfold maxLen; omega) (by omega) J J ?_; intro sa sc) | ((refine' am rfl ?_ J J ?_); rotate_left; first | exact ak af J J J J | exact ae af 2 J J J J J | exact ap af J J ⟨J, J, J, trivial⟩ J J J) | refine aj af 3 J J J J J J J J J J J J ?_)
    (refine dU af (fun _ => 0) J J trivial rfl fun w1 hm => ?_)
    refine ⟨(_, sa, sc), trivial, rfl, ?_⟩
    have h1 := hm.mask [false, true, true, true] rfl
    rw [List.length_append, List.flatMap_append, List.flatMap_singleton]
    exact h1
end Go.Proofs.YthiocbcokfondaaGreatDoor.Y
