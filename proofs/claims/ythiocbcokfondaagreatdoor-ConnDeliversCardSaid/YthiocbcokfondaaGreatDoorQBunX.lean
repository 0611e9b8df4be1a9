/- Texts of this claim merged into one: QConV, QEx47, QAw47. -/
import Derived.Test.YthiocbcokfondaaGreatDoorQBunC14
namespace Go.Proofs.YthiocbcokfondaaGreatDoor.Y
end Go.Proofs.YthiocbcokfondaaGreatDoor.Y
namespace Go.Proofs.YthiocbcokfondaaGreatDoor.Y
def exH : ir := ⟨⟨#[97, 46, 83]⟩, ⟨#[71, 101, 116]⟩, 0, []⟩
def AB (n : Int) : bj := ⟨10, n, 0⟩
def vk : NL := ⟨1, 1, 0, 0, 10, AB 10, AB 10, [], [], [], false⟩
theorem FG : dP 1 10 = (vk, 0) := by kernel_rfl
def Et (n : Int) (l : Int) : cx := ⟨1, 1, 4, n, 0, false, false, false, 0, ⟨#[]⟩, AB l, AB 10⟩
def qd : aY := ⟨1, 1, 4, oH exH⟩
def vm : NL := ⟨1, 2, 1, 0, 10, AB 10, AB 10, [⟨Et 0 10, exH.svc, exH.mth, 0, [], [], []⟩], [qd], [], false⟩
theorem Fh : cQ vk exH 4 = (vm, 1, 0) := by kernel_rfl
def ES : ByteArray := ⟨#[97, 98, 99, 100]⟩
def Eu : ByteArray := ⟨#[97, 98, 99, 100, 101, 102, 103]⟩
def rS : aY := ⟨2, 1, 0, ES⟩
def xG : NL := ⟨1, 2, 1, 0, 10, AB 6, AB 10, [⟨Et 1 6, exH.svc, exH.mth, 0, [], [], []⟩], [qd, rS], [], false⟩
theorem Fi : dL vm 1 ES = (xG, 0) := by kernel_rfl
def qe : NL := ⟨1, 2, 1, 0, 10, AB 6, AB 10, [⟨Et 1 6, exH.svc, exH.mth, 0, [], [], [⟨2, 1, 0, Eu⟩]⟩], [qd, rS], [], false⟩
theorem Fj : dL xG 1 Eu = (qe, 0) := by kernel_rfl
theorem Fk : lQ qe 1 = (⟨Et 1 6, exH.svc, exH.mth, 0, [], [], [⟨2, 1, 0, Eu⟩]⟩, true) := by kernel_rfl
theorem FH : lz qe = true := by kernel_rfl
end Go.Proofs.YthiocbcokfondaaGreatDoor.Y
namespace Go.Proofs.YthiocbcokfondaaGreatDoor.Y
open Go.RowKit
structure SzL (c : NL) : Prop where
  ks : c.ks.length ≤ 600000000
  ou : c.ou.length ≤ 1000000000 ∧ ∀ f ∈ c.ou, f.data.size < 4294967281
  pg : c.pg.length ≤ 1000000000
  tb : be c.ks ≤ 4611686018427387904
  ok : ∀ k ∈ c.ks, k.ms.length ≤ 1000000000 ∧ k.ib.length ≤ 1000000000 ∧ k.ob.length ≤ 1000000000 ∧ k.st.text.size ≤ 4611686018427387900 ∧ (∀ f ∈ k.ob, f.data.size < 4294967281) ∧ aW k.ib ≤ 4611686018427387904 ∧ ii k.hd
theorem NOk.inks {A : Nat → Prop} {w : World} {v : NV} (h : NOk A w v) {u : KV} (hu : u ∈ v.kv) : u.k ∈ v.c.ks := by rw [h.eq]; exact List.mem_map_of_mem hu
theorem SzL.n {A : Nat → Prop} {w : World} {v : NV} (h : SzL v.c) (hN : NOk A w v) : yS v := by
  have h1 := h.ks
  have h2 := h.ou.1
  have h3 := h.pg
  have h4 := hN.lenk
  exact ⟨by omega, by omega, by omega, fun u hu => by
    obtain ⟨a, b, c, _⟩ := h.ok _ (hN.inks hu)
    exact ⟨by omega, by omega, by omega⟩⟩
theorem SzL.g {A : Nat → Prop} {w : World} {v : NV} (h : SzL v.c) (hN : NOk A w v) : Cc v := ⟨fun _ hu => (h.ok _ (hN.inks hu)).2.2.2.1, fun _ hu => (h.ok _ (hN.inks hu)).2.2.2.2.1, fun _ hu => (h.ok _ (hN.inks hu)).2.2.1, h.ou.1⟩
theorem SzL.v {A : Nat → Prop} {w : World} {v : NV} (h : SzL v.c) (hN : NOk A w v) : Ff v := ⟨fun _ hu => (h.ok _ (hN.inks hu)).2.2.2.2.2.1, h.tb, fun _ hu => (h.ok _ (hN.inks hu)).2.2.2.2.2.2, h.ou.2⟩
theorem zI {c : NL} (h1 : c.ks = []) (h2 : c.ou = []) (h3 : c.pg = []) : SzL c := by
  refine ⟨by rw [h1]; decide, by rw [h2]; exact ⟨by decide, fun _ h => by cases h⟩, by rw [h3]; decide, by rw [h1]; decide, fun k hk => ?_⟩
  rw [h1] at hk; cases hk
theorem Ea : ii exH := ⟨by decide, by decide, fun _ h => by cases h⟩
theorem szX1 : SzL vk := zI J J J
theorem szX2 : SzL vm := ⟨by decide, ⟨by decide, fun f hf => by obtain rfl := List.mem_singleton.1 hf; exact of_decide_eq_true (by kernel_rfl)⟩, by decide, of_decide_eq_true (by kernel_rfl), fun k hk => by
  obtain rfl := List.mem_singleton.1 hk
  exact ⟨by decide, by decide, by decide, by decide, (fun _ h => by cases h), by decide, Ea⟩⟩
theorem wu {p : aY → Prop} (h1 : p qd) (h2 : p rS) : ∀ f ∈ [qd, rS], p f := fun f hf => by
  rcases List.mem_cons.1 hf with rfl | hf
  · exact h1
  · obtain rfl := List.mem_singleton.1 hf
    exact h2
theorem szX3 : SzL xG := ⟨by decide, ⟨by decide, wu (of_decide_eq_true (by kernel_rfl)) (of_decide_eq_true (by kernel_rfl))⟩, by decide, of_decide_eq_true (by kernel_rfl), fun k hk => by
  obtain rfl := List.mem_singleton.1 hk
  exact ⟨by decide, by decide, by decide, by decide, (fun _ h => by cases h), by decide, Ea⟩⟩
theorem szX4 : SzL qe := ⟨by decide, ⟨by decide, wu (of_decide_eq_true (by kernel_rfl)) (of_decide_eq_true (by kernel_rfl))⟩, by decide, of_decide_eq_true (by kernel_rfl), fun k hk => by
  obtain rfl := List.mem_singleton.1 hk
  exact ⟨by decide, by decide, by decide, by decide, (fun f hf => by obtain rfl := List.mem_singleton.1 hf; exact of_decide_eq_true (by kernel_rfl)), by decide, Ea⟩⟩
theorem kb {F0 : Nat → Prop} {w w1 w2 : World} {M : List Ent} {s : NV} (hm : Mem w w1 M) (hF : ∀ b, F0 b → ∀ f ∈ M, ¬ f.mut b) (h : OutN F0 w1 w2 s) : ∃ F : Nat → Prop, Mem w w2 (.rep F (fun w => NOk F w s) :: M) :=
  ⟨_, Mem.out hm (A := F0) hF h.2 (fun F w => NOk F w s) h.1.lt (fun _ _ _ hk h => h.agree hk)⟩
attribute [local irreducible] Calls
set_option maxRecDepth 100000 in
set_option maxHeartbeats 8000000 in
theorem zJ  (w : World) : Calls Tryz.prog 16 #[] w fun e w' => e = .returned (.agg #[.string exH.svc, .string exH.mth, .int .i64 exH.late, .slice none exH.metas.length 0]) ∧ Below w.heap.size w w' := by
  refine aQ Tryz.func16 rfl Tryz.ntmps16 J J ?_
  repeat' (first | refine ai ?_ | refine aa ?_ | refine ab ?_ | refine aA ?_ | refine ag ?_ | ((refine' am rfl ?_ J J ?_); rotate_left; exact ap af J J ⟨J, J, trivial⟩ J J J) | (refine aG af J J J J J J ?_; intro g) | refine aj af 0 J J J J J J J J J J J J ?_)
  (refine aC af (fun _ => 0) J J ⟨J, trivial⟩ rfl fun w hm => ⟨?_, hm.below⟩)
  rfl
theorem Eb {A : Nat → Prop} {w : World} {v : NV} (hN : NOk A w v) (hg : MLen w) (hc : v.c = qe) : Calls Tryz.prog 8 #[.agg ⟨NC v⟩] w fun e w' => e = .returned (.bool true) ∧ Below w.heap.size w w' := by
  have hs : SzL v.c := by rw [hc]; exact szX4
  exact (zH v w hN (hs.n hN) (hs.g hN) (hs.v hN) hg).mono fun e w' h => ⟨by rw [h.1, hc, FH], h.2⟩
set_option maxRecDepth 100000 in
set_option maxHeartbeats 16000000 in
theorem BI  (w : World) (hg : MLen w) : Calls Tryz.prog 13 #[] w fun e w' => e = .returned (.bool true) ∧ Below w.heap.size w w' := by
  refine aQ Tryz.func13 rfl Tryz.ntmps13 J J ?_
  repeat' (first | refine ai ?_ | refine aa ?_ | refine ab ?_ | refine ag ?_ | ((refine' am rfl ?_ J J ?_); rotate_left; exact ak af J J J J))
  refine aK (v := .tuple ⟨[.agg ⟨NC (bx vk)⟩, .int .i64 0]⟩) rfl (av J J J J ⟨J, J, trivial⟩ rfl (by kernel_rfl)) (fun w1 hm => (ph 1 10 w1).mono fun e w2 h => ⟨by rw [h.1, FG], h.2⟩) J J ?_
  repeat' (first | refine ai ?_ | refine ab ?_ | refine ag ?_ | (refine aG af J J J J J J ?_; intro g1) | ((refine' am rfl ?_ J J ?_); rotate_left; exact ak af J J J J) | refine aj af 0 J J J J J J J J J J J J ?_)
  refine nr (fun _ => False) 7 [18] [15, 19, 20, 21] [20, 21] (fun _ _ _ h => h.elim) aD rfl (by kernel_rfl) ?_
  ((refine' Ca rfl ?_ J J J ?_); rotate_left; exact ae af 0 J J J J J)
  refine tH rfl (av J J J J trivial rfl (by kernel_rfl)) (fun w1 hm => zJ w1) J J J ?_
  refine qK (σ := NV × (Nat → Prop)) (fun s => s.1.c = vm) (fun s => .tuple #[.agg ⟨NC s.1⟩, .int .i64 1, .int .i64 0]) (fun s => [.rep s.2 (fun w => NOk s.2 w s.1)]) rfl (av J J J J ⟨J, J, J, trivial⟩ rfl (by kernel_rfl)) (fun w1 hm => ?_) J J J J J ?_
  · refine (qP (A := fun _ => False) (bx vk) exH none 0 4 w1 (jz J J J) (szX1.n (A := fun _ => False) (w := w1) (jz J J J)) (szX1.g (A := fun _ => False) (w := w1) (jz J J J)) (hg.below hm.below) (by kernel_rfl) (by decide) dr Ea (of_decide_eq_true (by kernel_rfl)) (by decide)).mono fun e w2 ⟨v', h1, h2, h3, h4⟩ => ?_
    refine ⟨⟨(v', fun b => (False ∨ w1.heap.size ≤ b) ∧ b < w2.heap.size), fun b => w1.heap.size ≤ b ∧ b < w2.heap.size, by rw [h1]; exact congrArg (·.1) Fh, by rw [h2]; rw [show (bx vk).c = vk from rfl, Fh], ⟨⟨fun _ h => h.2, h3.lt, fun w3 w4 hk h => h.agree hk⟩, fun f hf => (by cases hf), trivial⟩, fun f hf b hm => ?_, fun f hf b hm => ?_, fun _ h => h⟩, h4⟩
    · obtain rfl := List.mem_singleton.1 hf
      exact hm.elim
    · obtain rfl := List.mem_singleton.1 hf
      exact .inl ⟨hm.1.elim (fun h => h.elim) id, hm.2⟩
  refine tI 2 J J J J J J J (by kernel_rfl) ?_
  refine jc 3 0 (m := 3) J J (fun x ⟨s, _, e⟩ => ⟨_, e, rfl⟩) J J J J J J (by kernel_rfl) ?_
  refine jc 3 1 (m := 3) J J (fun x ⟨s, _, e⟩ => ⟨_, e, rfl⟩) J J J J J J (by kernel_rfl) ?_
  refine jc 3 2 (m := 3) J J (fun x ⟨s, _, e⟩ => ⟨_, e, rfl⟩) J J J J J J (by kernel_rfl) ?_
  refine we ?_
  refine B9 ?_
  rintro ⟨⟨c2, x2, xc2, kv2, o2, oc2, p2, pc2⟩, F2⟩ h1
  dsimp only at h1
  subst h1
  refine jZ _ J J ?_
  refine jZ (.agg ⟨NC ⟨vm, x2, xc2, kv2, o2, oc2, p2, pc2⟩⟩) J J ?_
  refine jZ (.int .i64 1) J J ?_
  refine jZ (.int .i64 0) J J ?_
  refine zp ?_
  dsimp only [List.cons_append, List.nil_append]
  repeat' (first | refine ai ?_ | refine aa ?_ | refine ab ?_ | refine ag ?_ | ((refine' am rfl ?_ J J ?_); rotate_left; first | exact ak af J J J J | exact ae af 1 J J J J J) | refine aj af 1 J J J J J J J J J J J J ?_)
  refine bz (σ := NV × (Nat → Prop)) (fun s => s.1.c = xG) (fun s => .tuple ⟨[.agg ⟨NC s.1⟩, .int .i64 0]⟩) (fun s => [.rep s.2 (fun w => NOk s.2 w s.1), .cl g1 28 (NC ⟨vm, x2, xc2, kv2, o2, oc2, p2, pc2⟩)]) rfl (av J J J J ⟨J, J, J, trivial⟩ rfl (by kernel_rfl)) (fun w1 hm => ?_) J J ?_
  · obtain ⟨_, hN, _⟩ := hm.2.get (i := 0) rfl
    refine (pq (A := F2) ⟨vm, x2, xc2, kv2, o2, oc2, p2, pc2⟩ 1 ES w1 hN (szX2.n hN) (szX2.g hN) (hg.below hm.below) (by decide)).mono fun e w2 ⟨v', h1, h2, h3⟩ => ?_
    obtain ⟨F, hF⟩ := kb (M := [.cl g1 _ _]) (hm.mask [false, true] rfl) (fun b hb f hf => dM hm.2 (i := 0) rfl b hb f (List.mem_cons_of_mem _ hf)) h3
    exact ⟨(v', F), by rw [h1, Fi], by rw [h2, Fi], hF⟩
  rintro ⟨⟨c3, x3, xc3, kv3, o3, oc3, p3, pc3⟩, F3⟩ h1
  dsimp only at h1
  subst h1
  repeat' (first | refine ai ?_ | refine aa ?_ | refine ab ?_ | refine ag ?_ | ((refine' am rfl ?_ J J ?_); rotate_left; first | exact ak af J J J J | exact ae af 1 J J J J J) | refine aj af 1 J J J J J J J J J J J J ?_)
  refine bz (σ := NV × (Nat → Prop)) (fun s => s.1.c = qe) (fun s => .tuple ⟨[.agg ⟨NC s.1⟩, .int .i64 0]⟩) (fun s => [.rep s.2 (fun w => NOk s.2 w s.1), .cl g1 28 (NC ⟨xG, x3, xc3, kv3, o3, oc3, p3, pc3⟩)]) rfl (av J J J J ⟨J, J, J, trivial⟩ rfl (by kernel_rfl)) (fun w1 hm => ?_) J J ?_
  · obtain ⟨_, hN, _⟩ := hm.2.get (i := 0) rfl
    refine (pq (A := F3) ⟨xG, x3, xc3, kv3, o3, oc3, p3, pc3⟩ 1 Eu w1 hN (szX3.n hN) (szX3.g hN) (hg.below hm.below) (by decide)).mono fun e w2 ⟨v', h1, h2, h3⟩ => ?_
    obtain ⟨F, hF⟩ := kb (M := [.cl g1 _ _]) (hm.mask [false, true] rfl) (fun b hb f hf => dM hm.2 (i := 0) rfl b hb f (List.mem_cons_of_mem _ hf)) h3
    exact ⟨(v', F), by rw [h1, Fj], by rw [h2, Fj], hF⟩
  rintro ⟨⟨c4, x4, xc4, kv4, o4, oc4, p4, pc4⟩, F4⟩ h1
  dsimp only at h1
  subst h1
  repeat' (first | refine ai ?_ | refine aa ?_ | refine ab ?_ | refine ag ?_ | ((refine' am rfl ?_ J J ?_); rotate_left; first | exact ak af J J J J | exact ae af 1 J J J J J) | refine aj af 1 J J J J J J J J J J J J ?_)
  refine yQ (σ := NV × (Option Addr × Nat)) (fun _ => True) (fun s => .tuple ⟨[.agg ⟨NC s.1⟩, .slice s.2.1 2 s.2.2]⟩) (fun s F w => Rws F w 4 fC s.2.1 [qd, rS]) rfl (av J J J J ⟨J, trivial⟩ rfl (by kernel_rfl)) (fun w1 hm => ?_) J J ?_
  · obtain ⟨_, hN, _⟩ := hm.2.get (i := 0) rfl
    exact (lx (A := F4) ⟨qe, x4, xc4, kv4, o4, oc4, p4, pc4⟩ w1 hN (szX4.n hN)).mono fun e w2 ⟨v', p, h1, h2, h3, h4⟩ => ⟨(v', p), _, trivial, h2, Mem.out hm (A := fun _ => False) (fun b hb => hb.elim) h3.2 (fun F w => Rws F w 4 fC p.1 [qd, rS]) ((h4.mono fun _ => .inr).lt) (fun F w3 w4 hk h => h.agree hk)⟩
  rintro ⟨⟨c5, x5, xc5, kv5, o5, oc5, p5, pc5⟩, la, lc⟩ Fl -
  refine fV (p := ∃ b off, la = some ⟨b, off, none⟩ ∧ ∀ w, Rws Fl w 4 fC la [qd, rS] → w.rangeAt b (off + 1 * 4) (fC rS)) (fun w hM => ?_) ?_
  · obtain ⟨_, hS, _⟩ := hM.2.get (i := 0) rfl
    obtain ⟨b, off, hx, hh⟩ := nv hS (by decide)
    exact ⟨b, off, hx, fun w2 h2 => hh w2 h2 1 _ rfl⟩
  rintro ⟨yl, ol, rfl, hr⟩
  repeat' (first | refine ai ?_ | refine aa ?_ | refine ab ?_ | refine ag ?_ | (refine aG af J J J J J J ?_; intro g5) | ((refine' am rfl ?_ J J ?_); rotate_left; first | exact ak af J J J J | exact ae af 3 J J J J J) | refine aj af 0 J J J J J J J J J J J J ?_)
  refine yP (σ := KV) (fun s => s.k = (lQ qe 1).1) (fun s => .tuple ⟨[.agg ⟨KC s⟩, .bool true]⟩) rfl (av J J J J ⟨J, J, trivial⟩ rfl (by kernel_rfl)) (fun w1 hm => ?_) J J ?_
  · obtain ⟨_, hN, _⟩ := hm.2.get (i := 2) rfl
    exact (xw (A := F4) ⟨qe, x4, xc4, kv4, o4, oc4, p4, pc4⟩ 1 w1 hN (szX4.n hN)).mono fun e w2 ⟨v', h1, h2, _, h3⟩ => ⟨v', h1, by rw [h2, show (lQ qe 1).2 = true by rw [Fk]], h3⟩
  rintro ⟨k6, m6, mc6, i6, ic6, o6, oc6⟩ h1
  rw [Fk] at h1
  dsimp only at h1
  subst h1
  repeat' (first | refine ai ?_ | refine aa ?_ | refine ab ?_ | refine aA ?_ | refine ag ?_ | (refine aG af J J J J J J ?_; intro g6) | ((refine' am rfl ?_ J J ?_); rotate_left; first | exact cm af (m := 4) 1 J J J J J J J J (fun _ => rfl) (fun _ => (show 1 < 2 by decide)) | exact nt af 2 (cs := fC rS) J J J J J J (fun _ w hp => hr w hp) | exact ak af J J J J | exact aq af J J J J J J | exact bK J J J J J | exact ae af 0 J J J J J | exact ae af 4 J J J J J | exact fb af fE J J J J J J (by kernel_rfl) | exact bh af J J J J J J J | exact ap af J J ⟨J, J, J, trivial⟩ J J J) | refine aK rfl (av J J J J ⟨J, trivial⟩ rfl (by kernel_rfl)) (fun w hm => Eb (hm.2.get (i := 3) rfl).2.1 (hg.below hm.below) rfl) J J ?_ | refine aj af 0 J J J J J J J J J J J J ?_)
  refine aC af (fun _ => 0) J J trivial rfl fun w hm => ⟨?_, hm.below⟩
  kernel_rfl
end Go.Proofs.YthiocbcokfondaaGreatDoor.Y
