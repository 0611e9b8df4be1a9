/- The law ConnDelivers, walked. -/
import Derived.Test.YthiocbcokfondaaGreatDoorQDl1
import Derived.Test.YthiocbcokfondaaGreatDoorQVDl3
import Derived.Test.YthiocbcokfondaaGreatDoorQBunX
namespace Go.Proofs.YthiocbcokfondaaGreatDoor.Y
open Go.RowKit
section
variable {P : Program} {T : fJ} {l0 rest : List Oper} {Z : Act → World → Prop} {Q : Exit → Act → World → Prop} {n : Nat} {w0 : World} {S : bJ} {M M' M2 : List Ent} {p : World → Prop} {L : Cd} {o : Oper} {d : Nat}
theorem At {σ : Type} {f : FuncId} {args : List Value} (Φ : σ → Prop) (V : σ → Value) (N : σ → List Ent) (hg : o.guard = none) (ho : fc P S [] o f args) (hk : (xu o.op).pure = false) (hk2 : (xu o.op).read = false) (hc : ∀ w, Mem w0 w M → Calls P f ⟨args⟩ w fun e w' => ∃ s, Φ s ∧ e = .returned (V s) ∧ Mem w0 w' (N s))
    (hM' : ∀ s w, Mem w0 w (N s) → Mem w0 w M' ∧ p w) (hd : o.dst = some d) (hn : Nat.blt d n = true) (h : ∀ s, Φ s → SY P l0 Z rest n w0 M' p ((d, [], V s) :: S) (N s)) : SY P l0 Z (o :: rest) n w0 M' p S M := by
  have hdn : d < n := Nat.le_of_ble_eq_true hn
  refine ⟨fun a w hS hM => bd (by unfold Region.wanted; rw [hg]) hk hk2 fun K hK => ?_⟩
  refine Vals.wp (R := fun v' w' => ∃ s, Φ s ∧ v' = V s ∧ Mem w0 w' (N s)) rfl (dz (ho.ok n a w hS rfl) ((hc w hM).mono fun e w' ⟨s, h1, h2, h3⟩ => ⟨V s, h2, s, h1, rfl, h3⟩)) (fun v' w' ⟨s, h1, hv, hm⟩ => hK _ _ ⟨hM' _ _ hm, (h s h1).run _ _ ?_ hm⟩)
  subst hv
  rw [hd]; exact hS.put hdn (by simp [aF])
theorem Au (hT : TOK P T) (i : Nat) {t : TypeId} {td : TD} {x y : Operand} {g off : Nat} {B : TypeId} {v : Value} {cs cs' vs : List Value} (h1 : o.op = .store t x y) (hg : o.guard = none) (h2 : ev S x = some ([], .pointer (some ⟨g, off, none⟩))) (h3 : ev S y = some ([], v))
    (hm : fB M i = some (.cl g B cs)) (h4 : dS v = some vs) (h5 : lk t T = some td) (h6 : Nat.beq vs.length td.size = true) (h7 : fM vs = true) (h8 : jo cs off vs = some cs') (h9 : fY M i (.cl g B cs') = some M2) (hd : o.dst = none)
    (h : SQ Q .normal n w0 S M2) : SY P l0 (iY P l0.toArray o (Q .normal)) [] n w0 M' p S M := by
  refine ⟨fun a w hS hM => ?_⟩
  have hrun : (execOp a.eval o).run P w = .ok .skip (w.setRow g ⟨cs'⟩) := by
    unfold execOp
    simp only [h1, aO hS h2 rfl, aO hS h3 rfl, Sem.run_bind, fq hT (show Bk w g B ⟨cs⟩ from (hM.2.get hm).2) h4 h5 h6 h7 h8]
    rfl
  have hM2 := hM.setRow hm h9
  refine db (iZ (by unfold Region.wanted; rw [hg]) fun K hK => ?_)
  unfold Oper.wp
  rw [hrun]
  simp only [Oper.upon]
  refine hK _ _ (h.run _ _ ?_ hM2)
  first | exact hS | (rw [hd]; exact hS)
end
theorem Mem.addNil {w0 w : World} {M : List Ent} (h : Mem w0 w M) (T : TypeId) (sz : Nat) : Mem w0 w (.own none 0 T sz 0 [] :: M) :=
  ⟨h.1, World.ownsRow_nil _ _ _ _, fun _ _ _ => ⟨fun hm => hm.elim, fun _ hf => hf.elim⟩, h.2⟩
theorem Mem.addRep {w0 w : World} {M : List Ent} (h : Mem w0 w M) (p : World → Prop) (hp : ∀ w, p w) : Mem w0 w (.rep (fun _ => False) p :: M) :=
  ⟨h.1, ⟨fun _ h => h.elim, hp w, fun _ w2 _ _ => hp w2⟩, fun _ _ _ => ⟨fun hm => hm.elim, fun _ hf => hf.elim⟩, h.2⟩
def nB (sd n : Int) : NL := ⟨sd, 1, 0, 0, n, ⟨n, n, 0⟩, ⟨n, n, 0⟩, [], [], [], false⟩
def Dt (m : Int × ByteArray) : List Value := [.int .i64 m.1, .string m.2]
theorem BT (m : Int × ByteArray) : (Dt m).length = 2 := rfl
structure LS where
  i : Nat
  p : PV
  Fc : Nat → Prop
  Fs : Nat → Prop
theorem FR (p : MP) (m : ByteArray) : dX p 2 m = lD p := by unfold dX; rw [if_neg (by decide), if_neg (by decide), if_pos rfl]
theorem FS (p : MP) (m : ByteArray) : dX p 3 m = nO p := by unfold dX; rw [if_neg (by decide), if_neg (by decide), if_neg (by decide), if_pos rfl]
theorem FU (p : MP) (m : ByteArray) : dX p 4 m = pQ p := by unfold dX; rw [if_neg (by decide), if_neg (by decide), if_neg (by decide), if_neg (by decide), if_pos rfl]
theorem FV (p : MP) (m : ByteArray) : dX p 5 m = sg p := by unfold dX; rw [if_neg (by decide), if_neg (by decide), if_neg (by decide), if_neg (by decide), if_neg (by decide), if_pos rfl]
theorem kj {w0 : World} {M : List Ent} {n : Int} (hn1 : 1 ≤ n) (hn60 : n ≤ 60) (p : PV) (Fc Fs : Nat → Prop) (k : Int) (msg : ByteArray) {N : Nat} (hps : PS n exH (dy p) N) (hN : N ≤ 900000) (w : World) (hg : MLen w0) (hM : Mem w0 w (uq Fc Fs p M)) : Calls Tryz.prog 17 #[.agg ⟨PC p⟩, .agg #[.int .i64 k, .string msg]] w fun e w' => ∃ r : PV × (Nat → Prop) × (Nat → Prop), dy r.1 = dX (dy p) k msg ∧ e = .returned (.agg ⟨PC r.1⟩) ∧ Mem w0 w' (uq r.2.1 r.2.2 r.1 M) := by
  have z := hps.sz hN hn60 (VN.new (by rw [new1 (.inr rfl) hn1 hn60]))
  exact xU p Fc Fs k msg w z.vc z.vs z.mc z.ms z.up z.dn z.gS z.gC hg hM
attribute [local irreducible] Calls
set_option maxRecDepth 100000 in
set_option maxHeartbeats 32000000 in
theorem Ey {A : Nat → Prop} (a : Int) (x : Option Addr) (l : List (Int × ByteArray)) (cap : Nat) (w : World) (ha : 0 ≤ a ∧ a ≤ 255) (hR : Rws A w 2 Dt x l) (hg : MLen w) : Calls Tryz.prog 4 #[.int .u8 a, .slice x l.length cap] w fun e w' => e = .returned (.bool true) ∧ Below w.heap.size w w' := by
  refine aQ Tryz.func4 rfl Tryz.ntmps4 J J ?_
  repeat' (first | refine ai ?_ | refine aa ?_ | refine ab ?_ | refine ag ?_ | ((refine' am rfl ?_ J J ?_); rotate_left; first | exact ak af J J J J | exact aq af J J J J J J))
  obtain ⟨n, hn⟩ : ∃ n, IntKind.i64.wrap ((IntKind.i64.wrap a).tmod 60 + 1) = n := ⟨_, rfl⟩
  have hwa : IntKind.i64.wrap a = a := IntWalk.i64_in a (by omega)
  have hmod : 0 ≤ a.tmod 60 ∧ a.tmod 60 < 60 := ⟨Int.tmod_nonneg 60 ha.1, Int.tmod_lt_of_pos a (by decide)⟩
  have hn2 : n = a.tmod 60 + 1 := by rw [← hn, hwa]; exact IntWalk.i64_in _ (by omega)
  have hn1 : 1 ≤ n := by omega
  have hn60 : n ≤ 60 := by omega
  rw [hn]
  refine aK (v := .tuple ⟨[.agg ⟨NC (bx (nB 1 n))⟩, .int .i64 0]⟩) rfl (av J J J J ⟨J, J, trivial⟩ rfl (by kernel_rfl)) (fun w1 hm => (ph 1 n w1).mono fun e w2 h => ⟨by rw [h.1, new1 (.inl rfl) hn1 hn60]; rfl, h.2⟩) J J ?_
  repeat' (first | refine ai ?_ | refine aa ?_ | refine ab ?_ | refine ag ?_ | (refine aG af J J J J J J ?_; intro g6) | ((refine' am rfl ?_ J J ?_); rotate_left; exact ak af J J J J) | refine aj af 0 J J J J J J J J J J J J ?_)
  refine aK (v := .tuple ⟨[.agg ⟨NC (bx (nB 2 n))⟩, .int .i64 0]⟩) rfl (av J J J J ⟨J, J, trivial⟩ rfl (by kernel_rfl)) (fun w1 hm => (ph 2 n w1).mono fun e w2 h => ⟨by rw [h.1, new1 (.inr rfl) hn1 hn60]; rfl, h.2⟩) J J ?_
  repeat' (first | refine ai ?_ | refine ab ?_ | refine ag ?_ | (refine aG af J J J J J J ?_; intro g8) | ((refine' am rfl ?_ J J ?_); rotate_left; exact ak af J J J J) | refine aj af 0 J J J J J J J J J J J J ?_)
  have hop : cQ (nB 1 n) exH 4 = (cB n, 1, 0) := by have := Cl hn1 hn60; rw [new1 (.inl rfl) hn1 hn60] at this; exact this
  have hsz1 : SzL (nB 1 n) := zI J J J
  refine nr (fun _ => False) 7 [35] [32, 36, 37, 38] [37, 38] (fun _ _ _ h => h.elim) aD rfl (by kernel_rfl) ?_
  ((refine' Ca rfl ?_ J J J ?_); rotate_left; exact ae af 1 J J J J J)
  refine tH rfl (av J J J J trivial rfl (by kernel_rfl)) (fun w1 hm => zJ w1) J J J ?_
  refine qK (σ := NV × (Nat → Prop)) (fun s => s.1.c = cB n) (fun s => .tuple #[.agg ⟨NC s.1⟩, .int .i64 1, .int .i64 0]) (fun s => [.rep s.2 (fun w => NOk s.2 w s.1)]) rfl (av J J J J ⟨J, J, J, trivial⟩ rfl (by kernel_rfl)) (fun w1 hm => ?_) J J J J J ?_
  · refine (qP (A := fun _ => False) (bx (nB 1 n)) exH none 0 4 w1 (jz J J J) (hsz1.n (A := fun _ => False) (w := w1) (jz J J J)) (hsz1.g (A := fun _ => False) (w := w1) (jz J J J)) (hg.below hm.below) (by kernel_rfl) (show 0 ≤ 1000000000 by decide) dr Ea (of_decide_eq_true (by kernel_rfl)) (by decide)).mono fun e w2 ⟨v', h1, h2, h3, h4⟩ => ?_
    refine ⟨⟨(v', fun b => (False ∨ w1.heap.size ≤ b) ∧ b < w2.heap.size), fun b => w1.heap.size ≤ b ∧ b < w2.heap.size, by rw [h1]; exact congrArg (·.1) hop, by rw [h2]; rw [show (bx (nB 1 n)).c = nB 1 n from rfl, hop], ⟨⟨fun _ h => h.2, h3.lt, fun w3 w4 hk h => h.agree hk⟩, fun f hf => (by cases hf), trivial⟩, fun f hf b hm => ?_, fun f hf b hm => ?_, fun _ h => h⟩, h4⟩
    · obtain rfl := List.mem_singleton.1 hf
      exact hm.elim
    · obtain rfl := List.mem_singleton.1 hf
      exact .inl ⟨hm.1.elim (fun h => h.elim) id, hm.2⟩
  refine tI 2 J J J J J J J (by kernel_rfl) ?_
  refine jc 3 0 (m := 3) J J (fun x ⟨s, _, e⟩ => ⟨_, e, rfl⟩) J J J J J J (by kernel_rfl) ?_
  refine jc 3 1 (m := 3) J J (fun x ⟨s, _, e⟩ => ⟨_, e, rfl⟩) J J J J J J (by kernel_rfl) ?_
  refine jc 3 2 (m := 3) J J (fun x ⟨s, _, e⟩ => ⟨_, e, rfl⟩) J J J J J J (by kernel_rfl) ?_
  refine we ?_
  refine B9 ?_
  rintro ⟨⟨c2, x2, xc2, kv2, o2, oc2, p2, pc2⟩, F2⟩ h1
  dsimp only at h1
  subst h1
  refine jZ _ J J ?_
  refine jZ (.agg ⟨NC ⟨cB n, x2, xc2, kv2, o2, oc2, p2, pc2⟩⟩) J J ?_
  refine jZ (.int .i64 1) J J ?_
  refine jZ (.int .i64 0) J J ?_
  refine zp ?_
  dsimp only [List.cons_append, List.nil_append]
  repeat' (first | refine ai ?_ | refine aa ?_ | refine ab ?_ | refine ag ?_ | ((refine' am rfl ?_ J J ?_); rotate_left; first | exact ak af J J J J | exact aq af J J J J J J | exact bL J J J J J) | refine aj af 2 J J J J J J J J J J J J ?_)
  refine ar J J ?_
  repeat' (first | refine ai ?_ | refine aa ?_ | refine ab ?_ | refine ay ?_ | refine aJ ?_ | refine ag ?_ | (refine aG af J J J J J J ?_; intro g12) | ((refine' am rfl ?_ J J ?_); rotate_left; first | exact ak af J J J J | exact ae af 1 J J J J J | exact ae af 2 J J J J J | exact ap af J J ⟨J, J, J, J, trivial⟩ J J J) | refine aj af 0 J J J J J J J J J J J J ?_)
  obtain ⟨v1, hv1⟩ : ∃ v : NV, v = ⟨cB n, x2, xc2, kv2, o2, oc2, p2, pc2⟩ := ⟨_, rfl⟩
  refine AN (M' := .own (⟨v1, bx (nB 2 n), [], [], [], [], none, 0, none, 0, none, 0, none, 0, true⟩ : PV).u (⟨v1, bx (nB 2 n), [], [], [], [], none, 0, none, 0, none, 0, none, 0, true⟩ : PV).uc 9 1 (⟨v1, bx (nB 2 n), [], [], [], [], none, 0, none, 0, none, 0, none, 0, true⟩ : PV).up.length ((⟨v1, bx (nB 2 n), [], [], [], [], none, 0, none, 0, none, 0, none, 0, true⟩ : PV).up.flatMap sC) :: .own (⟨v1, bx (nB 2 n), [], [], [], [], none, 0, none, 0, none, 0, none, 0, true⟩ : PV).d (⟨v1, bx (nB 2 n), [], [], [], [], none, 0, none, 0, none, 0, none, 0, true⟩ : PV).dc 9 1 (⟨v1, bx (nB 2 n), [], [], [], [], none, 0, none, 0, none, 0, none, 0, true⟩ : PV).dn.length ((⟨v1, bx (nB 2 n), [], [], [], [], none, 0, none, 0, none, 0, none, 0, true⟩ : PV).dn.flatMap sC) :: .own (⟨v1, bx (nB 2 n), [], [], [], [], none, 0, none, 0, none, 0, none, 0, true⟩ : PV).gs (⟨v1, bx (nB 2 n), [], [], [], [], none, 0, none, 0, none, 0, none, 0, true⟩ : PV).gsc 9 1 (⟨v1, bx (nB 2 n), [], [], [], [], none, 0, none, 0, none, 0, none, 0, true⟩ : PV).gS.length ((⟨v1, bx (nB 2 n), [], [], [], [], none, 0, none, 0, none, 0, none, 0, true⟩ : PV).gS.flatMap sC) :: .own (⟨v1, bx (nB 2 n), [], [], [], [], none, 0, none, 0, none, 0, none, 0, true⟩ : PV).gc (⟨v1, bx (nB 2 n), [], [], [], [], none, 0, none, 0, none, 0, none, 0, true⟩ : PV).gcc 9 1 (⟨v1, bx (nB 2 n), [], [], [], [], none, 0, none, 0, none, 0, none, 0, true⟩ : PV).gC.length ((⟨v1, bx (nB 2 n), [], [], [], [], none, 0, none, 0, none, 0, none, 0, true⟩ : PV).gC.flatMap sC) :: .rep F2 (fun w => NOk F2 w (⟨v1, bx (nB 2 n), [], [], [], [], none, 0, none, 0, none, 0, none, 0, true⟩ : PV).c) :: .rep (fun _ => False) (fun w => NOk (fun _ => False) w (⟨v1, bx (nB 2 n), [], [], [], [], none, 0, none, 0, none, 0, none, 0, true⟩ : PV).s) :: [.cl g12 53 [.int .i64 (⟨v1, bx (nB 2 n), [], [], [], [], none, 0, none, 0, none, 0, none, 0, true⟩ : PV).c.c.sd, .int .i64 (⟨v1, bx (nB 2 n), [], [], [], [], none, 0, none, 0, none, 0, none, 0, true⟩ : PV).c.c.nx, .int .i64 (⟨v1, bx (nB 2 n), [], [], [], [], none, 0, none, 0, none, 0, none, 0, true⟩ : PV).c.c.la, .int .i64 (⟨v1, bx (nB 2 n), [], [], [], [], none, 0, none, 0, none, 0, none, 0, true⟩ : PV).c.c.aw, .int .i64 (⟨v1, bx (nB 2 n), [], [], [], [], none, 0, none, 0, none, 0, none, 0, true⟩ : PV).c.c.sz, .int .i64 (⟨v1, bx (nB 2 n), [], [], [], [], none, 0, none, 0, none, 0, none, 0, true⟩ : PV).c.c.sw.size, .int .i64 (⟨v1, bx (nB 2 n), [], [], [], [], none, 0, none, 0, none, 0, none, 0, true⟩ : PV).c.c.sw.left, .int .i64 (⟨v1, bx (nB 2 n), [], [], [], [], none, 0, none, 0, none, 0, none, 0, true⟩ : PV).c.c.sw.held, .int .i64 (⟨v1, bx (nB 2 n), [], [], [], [], none, 0, none, 0, none, 0, none, 0, true⟩ : PV).c.c.rw.size, .int .i64 (⟨v1, bx (nB 2 n), [], [], [], [], none, 0, none, 0, none, 0, none, 0, true⟩ : PV).c.c.rw.left, .int .i64 (⟨v1, bx (nB 2 n), [], [], [], [], none, 0, none, 0, none, 0, none, 0, true⟩ : PV).c.c.rw.held, .slice (⟨v1, bx (nB 2 n), [], [], [], [], none, 0, none, 0, none, 0, none, 0, true⟩ : PV).c.x (⟨v1, bx (nB 2 n), [], [], [], [], none, 0, none, 0, none, 0, none, 0, true⟩ : PV).c.kv.length (⟨v1, bx (nB 2 n), [], [], [], [], none, 0, none, 0, none, 0, none, 0, true⟩ : PV).c.xc, .slice (⟨v1, bx (nB 2 n), [], [], [], [], none, 0, none, 0, none, 0, none, 0, true⟩ : PV).c.o (⟨v1, bx (nB 2 n), [], [], [], [], none, 0, none, 0, none, 0, none, 0, true⟩ : PV).c.c.ou.length (⟨v1, bx (nB 2 n), [], [], [], [], none, 0, none, 0, none, 0, none, 0, true⟩ : PV).c.oc, .slice (⟨v1, bx (nB 2 n), [], [], [], [], none, 0, none, 0, none, 0, none, 0, true⟩ : PV).c.p (⟨v1, bx (nB 2 n), [], [], [], [], none, 0, none, 0, none, 0, none, 0, true⟩ : PV).c.c.pg.length (⟨v1, bx (nB 2 n), [], [], [], [], none, 0, none, 0, none, 0, none, 0, true⟩ : PV).c.pc, .bool (⟨v1, bx (nB 2 n), [], [], [], [], none, 0, none, 0, none, 0, none, 0, true⟩ : PV).c.c.cl, .int .i64 (⟨v1, bx (nB 2 n), [], [], [], [], none, 0, none, 0, none, 0, none, 0, true⟩ : PV).s.c.sd, .int .i64 (⟨v1, bx (nB 2 n), [], [], [], [], none, 0, none, 0, none, 0, none, 0, true⟩ : PV).s.c.nx, .int .i64 (⟨v1, bx (nB 2 n), [], [], [], [], none, 0, none, 0, none, 0, none, 0, true⟩ : PV).s.c.la, .int .i64 (⟨v1, bx (nB 2 n), [], [], [], [], none, 0, none, 0, none, 0, none, 0, true⟩ : PV).s.c.aw, .int .i64 (⟨v1, bx (nB 2 n), [], [], [], [], none, 0, none, 0, none, 0, none, 0, true⟩ : PV).s.c.sz, .int .i64 (⟨v1, bx (nB 2 n), [], [], [], [], none, 0, none, 0, none, 0, none, 0, true⟩ : PV).s.c.sw.size, .int .i64 (⟨v1, bx (nB 2 n), [], [], [], [], none, 0, none, 0, none, 0, none, 0, true⟩ : PV).s.c.sw.left, .int .i64 (⟨v1, bx (nB 2 n), [], [], [], [], none, 0, none, 0, none, 0, none, 0, true⟩ : PV).s.c.sw.held, .int .i64 (⟨v1, bx (nB 2 n), [], [], [], [], none, 0, none, 0, none, 0, none, 0, true⟩ : PV).s.c.rw.size, .int .i64 (⟨v1, bx (nB 2 n), [], [], [], [], none, 0, none, 0, none, 0, none, 0, true⟩ : PV).s.c.rw.left, .int .i64 (⟨v1, bx (nB 2 n), [], [], [], [], none, 0, none, 0, none, 0, none, 0, true⟩ : PV).s.c.rw.held, .slice (⟨v1, bx (nB 2 n), [], [], [], [], none, 0, none, 0, none, 0, none, 0, true⟩ : PV).s.x (⟨v1, bx (nB 2 n), [], [], [], [], none, 0, none, 0, none, 0, none, 0, true⟩ : PV).s.kv.length (⟨v1, bx (nB 2 n), [], [], [], [], none, 0, none, 0, none, 0, none, 0, true⟩ : PV).s.xc, .slice (⟨v1, bx (nB 2 n), [], [], [], [], none, 0, none, 0, none, 0, none, 0, true⟩ : PV).s.o (⟨v1, bx (nB 2 n), [], [], [], [], none, 0, none, 0, none, 0, none, 0, true⟩ : PV).s.c.ou.length (⟨v1, bx (nB 2 n), [], [], [], [], none, 0, none, 0, none, 0, none, 0, true⟩ : PV).s.oc, .slice (⟨v1, bx (nB 2 n), [], [], [], [], none, 0, none, 0, none, 0, none, 0, true⟩ : PV).s.p (⟨v1, bx (nB 2 n), [], [], [], [], none, 0, none, 0, none, 0, none, 0, true⟩ : PV).s.c.pg.length (⟨v1, bx (nB 2 n), [], [], [], [], none, 0, none, 0, none, 0, none, 0, true⟩ : PV).s.pc, .bool (⟨v1, bx (nB 2 n), [], [], [], [], none, 0, none, 0, none, 0, none, 0, true⟩ : PV).s.c.cl, .int .i64 1, .slice (⟨v1, bx (nB 2 n), [], [], [], [], none, 0, none, 0, none, 0, none, 0, true⟩ : PV).u (⟨v1, bx (nB 2 n), [], [], [], [], none, 0, none, 0, none, 0, none, 0, true⟩ : PV).up.length (⟨v1, bx (nB 2 n), [], [], [], [], none, 0, none, 0, none, 0, none, 0, true⟩ : PV).uc, .slice (⟨v1, bx (nB 2 n), [], [], [], [], none, 0, none, 0, none, 0, none, 0, true⟩ : PV).d (⟨v1, bx (nB 2 n), [], [], [], [], none, 0, none, 0, none, 0, none, 0, true⟩ : PV).dn.length (⟨v1, bx (nB 2 n), [], [], [], [], none, 0, none, 0, none, 0, none, 0, true⟩ : PV).dc, .slice (⟨v1, bx (nB 2 n), [], [], [], [], none, 0, none, 0, none, 0, none, 0, true⟩ : PV).gs (⟨v1, bx (nB 2 n), [], [], [], [], none, 0, none, 0, none, 0, none, 0, true⟩ : PV).gS.length (⟨v1, bx (nB 2 n), [], [], [], [], none, 0, none, 0, none, 0, none, 0, true⟩ : PV).gsc, .slice (⟨v1, bx (nB 2 n), [], [], [], [], none, 0, none, 0, none, 0, none, 0, true⟩ : PV).gc (⟨v1, bx (nB 2 n), [], [], [], [], none, 0, none, 0, none, 0, none, 0, true⟩ : PV).gC.length (⟨v1, bx (nB 2 n), [], [], [], [], none, 0, none, 0, none, 0, none, 0, true⟩ : PV).gcc, .bool (⟨v1, bx (nB 2 n), [], [], [], [], none, 0, none, 0, none, 0, none, 0, true⟩ : PV).fine]]) (fun w1 hM => ?_) ?_
  · rw [hv1]
    exact ((((((((hM.mask [true, true, false, false] rfl).perm (List.Perm.swap _ _ _)).addRep (fun w => NOk (fun _ => False) w (bx (nB 2 n))) (fun w => jz J J J)).perm (List.Perm.swap _ _ _)).addNil 9 1).addNil 9 1).addNil 9 1).addNil 9 1)
  have hs0 : VN (dP 2 n).1 := VN.new (by rw [new1 (.inr rfl) hn1 hn60])
  refine cK (σ := LS) (fun q => q.i ≤ l.length ∧ q.i ≤ 30 ∧ PS n exH (dy q.p) q.i) (fun q => [(13, [], .int .i64 ((q.i : Nat) : Int)), (12, [], .pointer (some ⟨g12, 0, none⟩)), (5, [], .int .i64 n), (1, [], .slice x l.length cap)]) (fun q => .own q.p.u q.p.uc 9 1 q.p.up.length (q.p.up.flatMap sC) :: .own q.p.d q.p.dc 9 1 q.p.dn.length (q.p.dn.flatMap sC) :: .own q.p.gs q.p.gsc 9 1 q.p.gS.length (q.p.gS.flatMap sC) :: .own q.p.gc q.p.gcc 9 1 q.p.gC.length (q.p.gC.flatMap sC) :: .rep q.Fc (fun w => NOk q.Fc w q.p.c) :: .rep q.Fs (fun w => NOk q.Fs w q.p.s) :: [.cl g12 53 [.int .i64 q.p.c.c.sd, .int .i64 q.p.c.c.nx, .int .i64 q.p.c.c.la, .int .i64 q.p.c.c.aw, .int .i64 q.p.c.c.sz, .int .i64 q.p.c.c.sw.size, .int .i64 q.p.c.c.sw.left, .int .i64 q.p.c.c.sw.held, .int .i64 q.p.c.c.rw.size, .int .i64 q.p.c.c.rw.left, .int .i64 q.p.c.c.rw.held, .slice q.p.c.x q.p.c.kv.length q.p.c.xc, .slice q.p.c.o q.p.c.c.ou.length q.p.c.oc, .slice q.p.c.p q.p.c.c.pg.length q.p.c.pc, .bool q.p.c.c.cl, .int .i64 q.p.s.c.sd, .int .i64 q.p.s.c.nx, .int .i64 q.p.s.c.la, .int .i64 q.p.s.c.aw, .int .i64 q.p.s.c.sz, .int .i64 q.p.s.c.sw.size, .int .i64 q.p.s.c.sw.left, .int .i64 q.p.s.c.sw.held, .int .i64 q.p.s.c.rw.size, .int .i64 q.p.s.c.rw.left, .int .i64 q.p.s.c.rw.held, .slice q.p.s.x q.p.s.kv.length q.p.s.xc, .slice q.p.s.o q.p.s.c.ou.length q.p.s.oc, .slice q.p.s.p q.p.s.c.pg.length q.p.s.pc, .bool q.p.s.c.cl, .int .i64 1, .slice q.p.u q.p.up.length q.p.uc, .slice q.p.d q.p.dn.length q.p.dc, .slice q.p.gs q.p.gS.length q.p.gsc, .slice q.p.gc q.p.gC.length q.p.gcc, .bool q.p.fine]]) (fun q => l.length - q.i) ⟨0, ⟨v1, bx (nB 2 n), [], [], [], [], none, 0, none, 0, none, 0, none, 0, true⟩, F2, fun _ => False⟩ [] ⟨Nat.zero_le _, Nat.zero_le _, by
    have h := De hn1 hn60
    rw [new1 (.inr rfl) hn1 hn60] at h
    rw [hv1]
    exact h⟩ ⟨J, J, J, J, trivial⟩ rfl ?_
  intro q ⟨hi1, hi2, hps⟩
  have hul := hps.2.1
  have hdl := hps.2.2
  by_cases hj : q.i < l.length ∧ q.i < 30
  · obtain ⟨s, hs⟩ : ∃ s, l[q.i]? = some s := ⟨l[q.i], List.getElem?_eq_getElem hj.1⟩
    obtain ⟨b, off, hx, _, _, hr⟩ := hR (by omega)
    subst hx
    have hj1 := hj.1
    have hc0 : w.cell? ⟨b, off + q.i * 2, none⟩ = some (.int .i64 s.1) := hr q.i s hs 0 _ rfl
    have hc1 : w.cell? ⟨b, off + q.i * 2 + 1, none⟩ = some (.string s.2) := hr q.i s hs 1 _ rfl
    have hrow : w.rangeAt b (off + q.i * 2) (Dt s) := hr q.i s hs
    repeat' (first | refine ai ?_ | refine aa ?_ | refine ab ?_ | refine ag ?_ | ((refine' am rfl ?_ J J ?_); rotate_left; first | exact ak af J J J J | exact aq af J J J J J J | exact bK J J J J J | exact bh af J J J J J J J))
    refine aB rfl (by simp only [Bool.and_eq_true, decide_eq_true_eq]; omega) ?_
    repeat' (first | refine ai ?_ | refine aa ?_ | refine ab ?_ | refine ay ?_ | refine aJ ?_ | refine ag ?_ | ((refine' am rfl ?_ J J ?_); rotate_left; first | exact cm af (m := 2) q.i J J J J J J J J (fun _ => rfl) (fun _ => hj1) | exact eH af (v := .int .i64 s.1) J J J J J (fun _ => hc0) | exact eH af (v := .string s.2) J J J J J (fun _ => hc1) | exact ak af J J J J | exact aq af J J J J J J | exact bK J J J J J | exact ae af 6 J J J J J | exact bh af J J J J J J J))
    refine fj [false, false, false, false, false, false, true] (fun _ => True) aD (by kernel_rfl) J J (fun _ _ => trivial) ?_
    iterate 4 (((refine' lw J J ?_ J J ?_); rotate_left; first | exact cm af (m := 2) q.i J J J J J J J J (fun _ => rfl) (fun _ => hj1) | exact ak af J J J J | exact ae af 0 J J J J J))
    ((refine' lw J J ?_ J J ?_); rotate_left; exact dC af (cs := Dt s) J J J J J (fun _ => hrow))
    refine At (σ := PV × (Nat → Prop) × (Nat → Prop)) (fun r => dy r.1 = dX (dy q.p) s.1 s.2) (fun r => .agg ⟨PC r.1⟩) (fun r => uq r.2.1 r.2.2 r.1 [.cl g12 53 [.int .i64 q.p.c.c.sd, .int .i64 q.p.c.c.nx, .int .i64 q.p.c.c.la, .int .i64 q.p.c.c.aw, .int .i64 q.p.c.c.sz, .int .i64 q.p.c.c.sw.size, .int .i64 q.p.c.c.sw.left, .int .i64 q.p.c.c.sw.held, .int .i64 q.p.c.c.rw.size, .int .i64 q.p.c.c.rw.left, .int .i64 q.p.c.c.rw.held, .slice q.p.c.x q.p.c.kv.length q.p.c.xc, .slice q.p.c.o q.p.c.c.ou.length q.p.c.oc, .slice q.p.c.p q.p.c.c.pg.length q.p.c.pc, .bool q.p.c.c.cl, .int .i64 q.p.s.c.sd, .int .i64 q.p.s.c.nx, .int .i64 q.p.s.c.la, .int .i64 q.p.s.c.aw, .int .i64 q.p.s.c.sz, .int .i64 q.p.s.c.sw.size, .int .i64 q.p.s.c.sw.left, .int .i64 q.p.s.c.sw.held, .int .i64 q.p.s.c.rw.size, .int .i64 q.p.s.c.rw.left, .int .i64 q.p.s.c.rw.held, .slice q.p.s.x q.p.s.kv.length q.p.s.xc, .slice q.p.s.o q.p.s.c.ou.length q.p.s.oc, .slice q.p.s.p q.p.s.c.pg.length q.p.s.pc, .bool q.p.s.c.cl, .int .i64 1, .slice q.p.u q.p.up.length q.p.uc, .slice q.p.d q.p.dn.length q.p.dc, .slice q.p.gs q.p.gS.length q.p.gsc, .slice q.p.gc q.p.gC.length q.p.gcc, .bool q.p.fine]]) rfl (av J J J J ⟨J, J, trivial⟩ rfl (by kernel_rfl)) J J (fun w1 hM => (kj hn1 hn60 q.p q.Fc q.Fs s.1 s.2 hps (by omega) w1 hg hM).mono fun e w2 ⟨r, h1, h2, h3⟩ => ⟨r, h1, h2, h3⟩) (fun s1 w1 hM => ⟨hM.mask [false, false, false, false, false, false, true] rfl, trivial⟩) J J ?_
    rintro ⟨p1, Fc1, Fs1⟩ h1
    dsimp only at h1
    dsimp only [uq]
    refine Au af 6 J J J J J J J J J J J J ?_
    have hm1 := hps.move (by omega) hn1 (by omega) s.1 s.2
    rw [← h1] at hm1
    obtain ⟨hps1, hlong⟩ := hm1
    obtain ⟨⟨r1, hr1⟩, ⟨r2, hr2⟩⟩ := hps1.pre
    have hf1 : p1.fine = true := hps1.fine
    have hu1 := hps1.2.1
    have hd1 := hps1.2.2
    have hru : p1.up.length ≤ q.i + 1 := hu1
    have hrd : p1.dn.length ≤ q.i + 1 := hd1
    repeat' (first | refine ai ?_ | refine aa ?_ | refine ab ?_ | refine ag ?_ | ((refine' am rfl ?_ J J ?_); rotate_left; first | exact cm af (m := 2) q.i J J J J J J J J (fun _ => rfl) (fun _ => hj1) | exact eH af (v := .int .i64 s.1) J J J J J (fun _ => hc0) | exact ak af J J J J | exact aq af J J J J J J | exact bL J J J J J | exact bK J J J J J | exact ae af 6 J J J J J | exact bh af J J J J J J J) | refine aK rfl (av J J J J ⟨J, J, trivial⟩ rfl (by kernel_rfl)) (fun w hm => fS (A := fun b => _ ≤ b) (B := fun b => _ ≤ b) p1.gs p1.gS p1.gsc p1.u p1.up _ p1.uc w (Rws.own cT (hm.2.get (i := 2) rfl)) (Rws.own cT (hm.2.get (i := 0) rfl)) hr1 (by omega)) J J ?_ | refine aK rfl (av J J J J ⟨J, J, trivial⟩ rfl (by kernel_rfl)) (fun w hm => fS (A := fun b => _ ≤ b) (B := fun b => _ ≤ b) p1.gc p1.gC p1.gcc p1.d p1.dn _ p1.dc w (Rws.own cT (hm.2.get (i := 3) rfl)) (Rws.own cT (hm.2.get (i := 1) rfl)) hr2 (by omega)) J J ?_)
    refine ar rfl ?_ ?_
    · have hl2 : s.1 = 0 → (p1.up.length = q.p.up.length ↔ n < (s.2.size : Int)) := hlong
      rw [hf1]
      by_cases hk0 : s.1 = 0
      · have := hl2 hk0
        by_cases hlt : n < (s.2.size : Int)
        · simp [hk0, hlt, this.2 hlt]
        · have h9 : ¬ p1.up.length = q.p.up.length := fun e => hlt (this.1 e)
          simp [hk0, hlt]
          omega
      · have e0 : (s.1 == 0) = false := beq_eq_false_iff_ne.2 hk0
        simp [e0]
    repeat' (first | refine aa ?_ | refine ab ?_ | refine ay ?_ | refine ax ?_ | refine ag ?_ | ((refine' am rfl ?_ J J ?_); rotate_left; first | exact bN J J J J J (by omega) | exact ak af J J J J))
    exact bA (⟨q.i + 1, p1, Fc1, Fs1⟩ : LS) [] ⟨by dsimp only; omega, by dsimp only; omega, hps1⟩ (show l.length - (q.i + 1) < l.length - q.i by omega) ⟨J, J, J, J, trivial⟩ rfl
  obtain ⟨N, hN⟩ : ∃ N, q.i = N := ⟨_, rfl⟩
  rw [hN] at hps hul hdl
  have hup : q.p.up.length ≤ 30 := by have : (dy q.p).up.length ≤ N := hul; exact Nat.le_trans this (by omega)
  have hdp : q.p.dn.length ≤ 30 := by have : (dy q.p).dn.length ≤ N := hdl; exact Nat.le_trans this (by omega)
  repeat' (first | refine ai ?_ | refine aa ?_ | refine ab ?_ | refine ag ?_ | ((refine' am rfl ?_ J J ?_); rotate_left; first | exact ak af J J J J | exact aq af J J J J J J | exact bK J J J J J | exact bh af J J J J J J J))
  refine ar rfl (by
    by_cases h9 : q.i < l.length
    · have : ¬ q.i < 30 := fun h => hj ⟨h9, h⟩
      simp only [Bool.and_eq_false_iff, decide_eq_false_iff_not]; omega
    · simp only [Bool.and_eq_false_iff, decide_eq_false_iff_not]; omega) ?_
  repeat' (first | refine ai ?_ | refine aa ?_ | refine ab ?_ | refine aJ ?_ | refine bq ?_ | refine aN ?_ | refine aT ?_ | refine ag ?_ | ((refine' am rfl ?_ J J ?_); rotate_left; exact ak af J J J J))
  refine cK (σ := LS) (fun u => u.i ≤ 2 * (q.p.up.length + q.p.dn.length) + 2 ∧ PS n exH (dy u.p) N ∧ dy u.p = eG (q.p.up.length + q.p.dn.length + 1) u.i (dy q.p) ∧ u.p.up.length = q.p.up.length ∧ u.p.dn.length = q.p.dn.length) (fun u => [(16, [], .int .i64 ((u.i : Nat) : Int)), (12, [], .pointer (some ⟨g12, 0, none⟩))]) (fun u => .own u.p.u u.p.uc 9 1 u.p.up.length (u.p.up.flatMap sC) :: .own u.p.d u.p.dc 9 1 u.p.dn.length (u.p.dn.flatMap sC) :: .own u.p.gs u.p.gsc 9 1 u.p.gS.length (u.p.gS.flatMap sC) :: .own u.p.gc u.p.gcc 9 1 u.p.gC.length (u.p.gC.flatMap sC) :: .rep u.Fc (fun w => NOk u.Fc w u.p.c) :: .rep u.Fs (fun w => NOk u.Fs w u.p.s) :: [.cl g12 53 [.int .i64 u.p.c.c.sd, .int .i64 u.p.c.c.nx, .int .i64 u.p.c.c.la, .int .i64 u.p.c.c.aw, .int .i64 u.p.c.c.sz, .int .i64 u.p.c.c.sw.size, .int .i64 u.p.c.c.sw.left, .int .i64 u.p.c.c.sw.held, .int .i64 u.p.c.c.rw.size, .int .i64 u.p.c.c.rw.left, .int .i64 u.p.c.c.rw.held, .slice u.p.c.x u.p.c.kv.length u.p.c.xc, .slice u.p.c.o u.p.c.c.ou.length u.p.c.oc, .slice u.p.c.p u.p.c.c.pg.length u.p.c.pc, .bool u.p.c.c.cl, .int .i64 u.p.s.c.sd, .int .i64 u.p.s.c.nx, .int .i64 u.p.s.c.la, .int .i64 u.p.s.c.aw, .int .i64 u.p.s.c.sz, .int .i64 u.p.s.c.sw.size, .int .i64 u.p.s.c.sw.left, .int .i64 u.p.s.c.sw.held, .int .i64 u.p.s.c.rw.size, .int .i64 u.p.s.c.rw.left, .int .i64 u.p.s.c.rw.held, .slice u.p.s.x u.p.s.kv.length u.p.s.xc, .slice u.p.s.o u.p.s.c.ou.length u.p.s.oc, .slice u.p.s.p u.p.s.c.pg.length u.p.s.pc, .bool u.p.s.c.cl, .int .i64 1, .slice u.p.u u.p.up.length u.p.uc, .slice u.p.d u.p.dn.length u.p.dc, .slice u.p.gs u.p.gS.length u.p.gsc, .slice u.p.gc u.p.gC.length u.p.gcc, .bool u.p.fine]]) (fun u => 2 * (q.p.up.length + q.p.dn.length) + 2 - u.i) ⟨0, q.p, q.Fc, q.Fs⟩ [] ⟨Nat.zero_le _, hps, rfl, rfl, rfl⟩ ⟨J, J, trivial⟩ rfl ?_
  intro u ⟨hui, hpu, hmu, hlu, hld⟩
  have MU : ∀ (l0 : PV), l0.up.length = q.p.up.length → l0.dn.length = q.p.dn.length → IntKind.i64.wrap (2 * ((l0.up.length : Int) + l0.dn.length)) = 2 * ((q.p.up.length : Int) + q.p.dn.length) := fun l0 e1 e2 => by rw [e1, e2]; exact IntWalk.i64_in _ (by omega)
  by_cases hju : u.i < 2 * (q.p.up.length + q.p.dn.length) + 2
  · skip
    repeat' (first | refine ai ?_ | refine aa ?_ | refine ab ?_ | refine ag ?_ | ((refine' am rfl ?_ J J ?_); rotate_left; first | exact bN J J J J J (by omega) | exact B3 (v := .int .i64 (2 * ((q.p.up.length : Int) + q.p.dn.length))) (aq af J J J J J J) (congrArg (Value.int .i64) (MU u.p hlu hld)) | exact ak af J J J J | exact aq af J J J J J J | exact ae af 6 J J J J J | exact bh af J J J J J J J))
    refine aB rfl (decide_eq_true (by omega)) ?_
    repeat' (first | refine ai ?_ | refine aa ?_ | refine ab ?_ | refine ay ?_ | refine aJ ?_ | ((refine' am rfl ?_ J J ?_); rotate_left; first | exact ae af 6 J J J J J | exact ap af J J ⟨J, trivial⟩ J J J))
    refine bz (σ := PV × (Nat → Prop) × (Nat → Prop)) (fun r => dy r.1 = lD (dy u.p)) (fun r => .agg ⟨PC r.1⟩) (fun r => uq r.2.1 r.2.2 r.1 [.cl g12 53 (PC u.p)]) rfl (av J J J J ⟨J, J, trivial⟩ rfl (by kernel_rfl)) (fun w1 hM => (kj hn1 hn60 u.p u.Fc u.Fs 2 emptyB hpu (by omega) w1 hg hM).mono fun e w2 ⟨r, h1, h2, h3⟩ => ⟨r, h1.trans (FR _ _), h2, h3⟩) J J ?_
    rintro ⟨p1, F1, G1⟩ h1
    dsimp only at h1
    dsimp only [uq]
    repeat' (first | refine ai ?_ | refine aa ?_ | refine ab ?_ | refine ag ?_ | ((refine' am rfl ?_ J J ?_); rotate_left; first | exact ae af 6 J J J J J | exact ap af J J ⟨J, trivial⟩ J J J) | refine aj af 6 J J J J J J J J J J J J ?_)
    have hp1 : PS n exH (dy p1) N := h1 ▸ (hpu.mv (by omega) hn1 hn60).1
    repeat' (first | refine ai ?_ | refine aa ?_ | refine ab ?_ | refine aA ?_ | refine ay ?_ | refine aJ ?_ | refine bq ?_ | refine au ?_ | refine aN ?_ | refine ax ?_ | refine ba ?_ | refine aT ?_ | refine cg rfl ?_ | refine aU aD rfl (by kernel_rfl) ?_ | refine ag ?_ | refine bH ?_ | (refine cJ ?_; intro g) | ((first | refine' am rfl ?_ J J ?_ | refine' dg rfl ?_ J J J ?_); rotate_left; first | exact ak af J J J J | exact aq af J J J J J J | exact bL J J J J J | exact bK J J J J J | exact ae af 0 J J J J J | exact ae af 1 J J J J J | exact ae af 2 J J J J J | exact ae af 3 J J J J J | exact ae af 4 J J J J J | exact ae af 5 J J J J J | exact ae af 6 J J J J J | exact ae af 7 J J J J J | exact fb af fE J J J J J J (by kernel_rfl) | exact fL af fE J J J J J J (by kernel_rfl) | exact bh af J J J J J J J | exact eZ J J J J J | exact fK J J J J J | exact iP J J J J J J J | exact ap af J J trivial J J J | exact ap af J J ⟨J, trivial⟩ J J J | exact ap af J J ⟨J, J, trivial⟩ J J J | exact ap af J J ⟨J, J, J, trivial⟩ J J J | exact ap af J J ⟨J, J, J, J, trivial⟩ J J J | exact ap af J J ⟨J, J, J, J, J, trivial⟩ J J J | exact ap af J J ⟨J, J, J, J, J, J, trivial⟩ J J J | exact ap af J J ⟨J, J, J, J, J, J, J, trivial⟩ J J J | exact ap af J J ⟨J, J, J, J, J, J, J, J, trivial⟩ J J J) | (refine aV J J J J J J ?_; intro g) | (refine aG af J J J J J J ?_; intro g) | refine bW af J J J J J J ?_ | refine fO J J J J J J ?_ | refine aj af 0 J J J J J J J J J J J J ?_ | refine aj af 1 J J J J J J J J J J J J ?_ | refine aj af 2 J J J J J J J J J J J J ?_ | refine aj af 3 J J J J J J J J J J J J ?_ | refine aj af 4 J J J J J J J J J J J J ?_ | refine aj af 5 J J J J J J J J J J J J ?_ | refine aj af 6 J J J J J J J J J J J J ?_ | refine aj af 7 J J J J J J J J J J J J ?_)
    refine bz (σ := PV × (Nat → Prop) × (Nat → Prop)) (fun r => dy r.1 = nO (dy p1)) (fun r => .agg ⟨PC r.1⟩) (fun r => uq r.2.1 r.2.2 r.1 [.cl g12 53 (PC p1)]) rfl (av J J J J ⟨J, J, trivial⟩ rfl (by kernel_rfl)) (fun w1 hM => (kj hn1 hn60 p1 F1 G1 3 emptyB hp1 (by omega) w1 hg hM).mono fun e w2 ⟨r, h1, h2, h3⟩ => ⟨r, h1.trans (FS _ _), h2, h3⟩) J J ?_
    rintro ⟨p2, F3, G3⟩ h2
    dsimp only at h2
    dsimp only [uq]
    repeat' (first | refine ai ?_ | refine aa ?_ | refine ab ?_ | refine aJ ?_ | refine ag ?_ | ((refine' am rfl ?_ J J ?_); rotate_left; exact ak af J J J J) | refine aj af 6 J J J J J J J J J J J J ?_)
    have hp2 : PS n exH (dy p2) N := h2 ▸ (hp1.mv (by omega) hn1 hn60).2.1
    have e2u : p2.up.length = q.p.up.length := by rw [show p2.up = (dy p2).up from rfl, h2, ← hlu]; exact congrArg (fun m => m.up.length) h1
    have e2d : p2.dn.length = q.p.dn.length := by rw [show p2.dn = (dy p2).dn from rfl, h2, ← hld]; exact congrArg (fun m => m.dn.length) h1
    repeat' (first | refine ai ?_ | refine aa ?_ | refine ab ?_ | refine aA ?_ | refine ay ?_ | refine aJ ?_ | refine bq ?_ | refine au ?_ | refine aN ?_ | refine ax ?_ | refine ba ?_ | refine aT ?_ | refine cg rfl ?_ | refine aU aD rfl (by kernel_rfl) ?_ | refine ag ?_ | refine bH ?_ | (refine cJ ?_; intro g) | ((first | refine' am rfl ?_ J J ?_ | refine' dg rfl ?_ J J J ?_); rotate_left; first | exact ak af J J J J | exact aq af J J J J J J | exact bL J J J J J | exact bK J J J J J | exact ae af 0 J J J J J | exact ae af 1 J J J J J | exact ae af 2 J J J J J | exact ae af 3 J J J J J | exact ae af 4 J J J J J | exact ae af 5 J J J J J | exact ae af 6 J J J J J | exact ae af 7 J J J J J | exact fb af fE J J J J J J (by kernel_rfl) | exact fL af fE J J J J J J (by kernel_rfl) | exact bh af J J J J J J J | exact eZ J J J J J | exact fK J J J J J | exact iP J J J J J J J | exact ap af J J trivial J J J | exact ap af J J ⟨J, trivial⟩ J J J | exact ap af J J ⟨J, J, trivial⟩ J J J | exact ap af J J ⟨J, J, J, trivial⟩ J J J | exact ap af J J ⟨J, J, J, J, trivial⟩ J J J | exact ap af J J ⟨J, J, J, J, J, trivial⟩ J J J | exact ap af J J ⟨J, J, J, J, J, J, trivial⟩ J J J | exact ap af J J ⟨J, J, J, J, J, J, J, trivial⟩ J J J | exact ap af J J ⟨J, J, J, J, J, J, J, J, trivial⟩ J J J) | (refine aV J J J J J J ?_; intro g) | (refine aG af J J J J J J ?_; intro g) | refine bW af J J J J J J ?_ | refine fO J J J J J J ?_ | refine aj af 0 J J J J J J J J J J J J ?_ | refine aj af 1 J J J J J J J J J J J J ?_ | refine aj af 2 J J J J J J J J J J J J ?_ | refine aj af 3 J J J J J J J J J J J J ?_ | refine aj af 4 J J J J J J J J J J J J ?_ | refine aj af 5 J J J J J J J J J J J J ?_ | refine aj af 6 J J J J J J J J J J J J ?_ | refine aj af 7 J J J J J J J J J J J J ?_)
    refine cK (σ := LS) (fun v => v.i ≤ q.p.up.length + q.p.dn.length + 1 ∧ PS n exH (dy v.p) N ∧ dy v.p = fH v.i (dy p2) ∧ v.p.up.length = q.p.up.length ∧ v.p.dn.length = q.p.dn.length) (fun v => [(17, [], .int .i64 ((v.i : Nat) : Int)), (16, [], .int .i64 ((u.i : Nat) : Int)), (12, [], .pointer (some ⟨g12, 0, none⟩))]) (fun v => .own v.p.u v.p.uc 9 1 v.p.up.length (v.p.up.flatMap sC) :: .own v.p.d v.p.dc 9 1 v.p.dn.length (v.p.dn.flatMap sC) :: .own v.p.gs v.p.gsc 9 1 v.p.gS.length (v.p.gS.flatMap sC) :: .own v.p.gc v.p.gcc 9 1 v.p.gC.length (v.p.gC.flatMap sC) :: .rep v.Fc (fun w => NOk v.Fc w v.p.c) :: .rep v.Fs (fun w => NOk v.Fs w v.p.s) :: [.cl g12 53 [.int .i64 v.p.c.c.sd, .int .i64 v.p.c.c.nx, .int .i64 v.p.c.c.la, .int .i64 v.p.c.c.aw, .int .i64 v.p.c.c.sz, .int .i64 v.p.c.c.sw.size, .int .i64 v.p.c.c.sw.left, .int .i64 v.p.c.c.sw.held, .int .i64 v.p.c.c.rw.size, .int .i64 v.p.c.c.rw.left, .int .i64 v.p.c.c.rw.held, .slice v.p.c.x v.p.c.kv.length v.p.c.xc, .slice v.p.c.o v.p.c.c.ou.length v.p.c.oc, .slice v.p.c.p v.p.c.c.pg.length v.p.c.pc, .bool v.p.c.c.cl, .int .i64 v.p.s.c.sd, .int .i64 v.p.s.c.nx, .int .i64 v.p.s.c.la, .int .i64 v.p.s.c.aw, .int .i64 v.p.s.c.sz, .int .i64 v.p.s.c.sw.size, .int .i64 v.p.s.c.sw.left, .int .i64 v.p.s.c.sw.held, .int .i64 v.p.s.c.rw.size, .int .i64 v.p.s.c.rw.left, .int .i64 v.p.s.c.rw.held, .slice v.p.s.x v.p.s.kv.length v.p.s.xc, .slice v.p.s.o v.p.s.c.ou.length v.p.s.oc, .slice v.p.s.p v.p.s.c.pg.length v.p.s.pc, .bool v.p.s.c.cl, .int .i64 1, .slice v.p.u v.p.up.length v.p.uc, .slice v.p.d v.p.dn.length v.p.dc, .slice v.p.gs v.p.gS.length v.p.gsc, .slice v.p.gc v.p.gC.length v.p.gcc, .bool v.p.fine]]) (fun v => q.p.up.length + q.p.dn.length + 1 - v.i) ⟨0, p2, F3, G3⟩ [] ⟨Nat.zero_le _, hp2, rfl, e2u, e2d⟩ ⟨J, J, J, trivial⟩ rfl ?_
    intro v ⟨hvi, hpv, hmv, hvu, hvd⟩
    by_cases hjv : v.i < q.p.up.length + q.p.dn.length + 1
    · skip
      repeat' (first | refine ai ?_ | refine aa ?_ | refine ab ?_ | refine ag ?_ | ((refine' am rfl ?_ J J ?_); rotate_left; first | exact bN J J J J J (by omega) | exact ak af J J J J | exact aq af J J J J J J | exact ae af 6 J J J J J | exact bh af J J J J J J J))
      refine aB rfl (decide_eq_true (by omega)) ?_
      repeat' (first | refine ai ?_ | refine aa ?_ | refine ab ?_ | refine ay ?_ | refine aJ ?_ | ((refine' am rfl ?_ J J ?_); rotate_left; first | exact ae af 6 J J J J J | exact ap af J J ⟨J, trivial⟩ J J J))
      refine bz (σ := PV × (Nat → Prop) × (Nat → Prop)) (fun r => dy r.1 = pQ (dy v.p)) (fun r => .agg ⟨PC r.1⟩) (fun r => uq r.2.1 r.2.2 r.1 [.cl g12 53 (PC v.p)]) rfl (av J J J J ⟨J, J, trivial⟩ rfl (by kernel_rfl)) (fun w1 hM => (kj hn1 hn60 v.p v.Fc v.Fs 4 emptyB hpv (by omega) w1 hg hM).mono fun e w2 ⟨r, h1, h2, h3⟩ => ⟨r, h1.trans (FU _ _), h2, h3⟩) J J ?_
      rintro ⟨p4, F4, G4⟩ h4
      dsimp only at h4
      dsimp only [uq]
      repeat' (first | refine aa ?_ | refine ab ?_ | refine ag ?_ | ((refine' am rfl ?_ J J ?_); rotate_left; first | exact ae af 6 J J J J J | exact ap af J J ⟨J, trivial⟩ J J J) | refine aj af 6 J J J J J J J J J J J J ?_)
      have hp4 : PS n exH (dy p4) N := h4 ▸ (hpv.mv (by omega) hn1 hn60).2.2.1
      repeat' (first | refine ai ?_ | refine aa ?_ | refine ab ?_ | refine aA ?_ | refine ay ?_ | refine aJ ?_ | refine bq ?_ | refine au ?_ | refine aN ?_ | refine ax ?_ | refine ba ?_ | refine aT ?_ | refine cg rfl ?_ | refine aU aD rfl (by kernel_rfl) ?_ | refine ag ?_ | refine bH ?_ | (refine cJ ?_; intro g) | ((first | refine' am rfl ?_ J J ?_ | refine' dg rfl ?_ J J J ?_); rotate_left; first | exact ak af J J J J | exact aq af J J J J J J | exact bL J J J J J | exact bK J J J J J | exact ae af 0 J J J J J | exact ae af 1 J J J J J | exact ae af 2 J J J J J | exact ae af 3 J J J J J | exact ae af 4 J J J J J | exact ae af 5 J J J J J | exact ae af 6 J J J J J | exact ae af 7 J J J J J | exact fb af fE J J J J J J (by kernel_rfl) | exact fL af fE J J J J J J (by kernel_rfl) | exact bh af J J J J J J J | exact eZ J J J J J | exact fK J J J J J | exact iP J J J J J J J | exact ap af J J trivial J J J | exact ap af J J ⟨J, trivial⟩ J J J | exact ap af J J ⟨J, J, trivial⟩ J J J | exact ap af J J ⟨J, J, J, trivial⟩ J J J | exact ap af J J ⟨J, J, J, J, trivial⟩ J J J | exact ap af J J ⟨J, J, J, J, J, trivial⟩ J J J | exact ap af J J ⟨J, J, J, J, J, J, trivial⟩ J J J | exact ap af J J ⟨J, J, J, J, J, J, J, trivial⟩ J J J | exact ap af J J ⟨J, J, J, J, J, J, J, J, trivial⟩ J J J) | (refine aV J J J J J J ?_; intro g) | (refine aG af J J J J J J ?_; intro g) | refine bW af J J J J J J ?_ | refine fO J J J J J J ?_ | refine aj af 0 J J J J J J J J J J J J ?_ | refine aj af 1 J J J J J J J J J J J J ?_ | refine aj af 2 J J J J J J J J J J J J ?_ | refine aj af 3 J J J J J J J J J J J J ?_ | refine aj af 4 J J J J J J J J J J J J ?_ | refine aj af 5 J J J J J J J J J J J J ?_ | refine aj af 6 J J J J J J J J J J J J ?_ | refine aj af 7 J J J J J J J J J J J J ?_)
      refine bz (σ := PV × (Nat → Prop) × (Nat → Prop)) (fun r => dy r.1 = sg (dy p4)) (fun r => .agg ⟨PC r.1⟩) (fun r => uq r.2.1 r.2.2 r.1 [.cl g12 53 (PC p4)]) rfl (av J J J J ⟨J, J, trivial⟩ rfl (by kernel_rfl)) (fun w1 hM => (kj hn1 hn60 p4 F4 G4 5 emptyB hp4 (by omega) w1 hg hM).mono fun e w2 ⟨r, h1, h2, h3⟩ => ⟨r, h1.trans (FV _ _), h2, h3⟩) J J ?_
      rintro ⟨p5, F5, G5⟩ h5
      dsimp only at h5
      dsimp only [uq]
      repeat' (first | refine aa ?_ | refine ab ?_ | refine ax ?_ | refine ag ?_ | ((refine' am rfl ?_ J J ?_); rotate_left; first | exact bN J J J J J (by omega) | exact ak af J J J J) | refine aj af 6 J J J J J J J J J J J J ?_)
      have hp5 : PS n exH (dy p5) N := h5 ▸ (hp4.mv (by omega) hn1 hn60).2.2.2
      have e5u : p5.up.length = q.p.up.length := by rw [show p5.up = (dy p5).up from rfl, h5, ← hvu]; exact congrArg (fun m => m.up.length) h4
      have e5d : p5.dn.length = q.p.dn.length := by rw [show p5.dn = (dy p5).dn from rfl, h5, ← hvd]; exact congrArg (fun m => m.dn.length) h4
      repeat' (first | refine ai ?_ | refine aa ?_ | refine ab ?_ | refine aA ?_ | refine ay ?_ | refine aJ ?_ | refine bq ?_ | refine au ?_ | refine aN ?_ | refine ax ?_ | refine ba ?_ | refine aT ?_ | refine cg rfl ?_ | refine aU aD rfl (by kernel_rfl) ?_ | refine ag ?_ | refine bH ?_ | (refine cJ ?_; intro g) | ((first | refine' am rfl ?_ J J ?_ | refine' dg rfl ?_ J J J ?_); rotate_left; first | exact bN J J J J J (by omega) | exact ak af J J J J | exact aq af J J J J J J | exact bL J J J J J | exact bK J J J J J | exact ae af 0 J J J J J | exact ae af 1 J J J J J | exact ae af 2 J J J J J | exact ae af 3 J J J J J | exact ae af 4 J J J J J | exact ae af 5 J J J J J | exact ae af 6 J J J J J | exact ae af 7 J J J J J | exact fb af fE J J J J J J (by kernel_rfl) | exact fL af fE J J J J J J (by kernel_rfl) | exact bh af J J J J J J J | exact eZ J J J J J | exact fK J J J J J | exact iP J J J J J J J | exact ap af J J trivial J J J | exact ap af J J ⟨J, trivial⟩ J J J | exact ap af J J ⟨J, J, trivial⟩ J J J | exact ap af J J ⟨J, J, J, trivial⟩ J J J | exact ap af J J ⟨J, J, J, J, trivial⟩ J J J | exact ap af J J ⟨J, J, J, J, J, trivial⟩ J J J | exact ap af J J ⟨J, J, J, J, J, J, trivial⟩ J J J | exact ap af J J ⟨J, J, J, J, J, J, J, trivial⟩ J J J | exact ap af J J ⟨J, J, J, J, J, J, J, J, trivial⟩ J J J) | (refine aV J J J J J J ?_; intro g) | (refine aG af J J J J J J ?_; intro g) | refine bW af J J J J J J ?_ | refine fO J J J J J J ?_ | refine aj af 0 J J J J J J J J J J J J ?_ | refine aj af 1 J J J J J J J J J J J J ?_ | refine aj af 2 J J J J J J J J J J J J ?_ | refine aj af 3 J J J J J J J J J J J J ?_ | refine aj af 4 J J J J J J J J J J J J ?_ | refine aj af 5 J J J J J J J J J J J J ?_ | refine aj af 6 J J J J J J J J J J J J ?_ | refine aj af 7 J J J J J J J J J J J J ?_)
      exact bA (⟨v.i + 1, p5, F5, G5⟩ : LS) [] ⟨by dsimp only; omega, hp5, by dsimp only; rw [h5, h4, hmv]; rfl, e5u, e5d⟩ (show q.p.up.length + q.p.dn.length + 1 - (v.i + 1) < q.p.up.length + q.p.dn.length + 1 - v.i by omega) ⟨J, J, J, trivial⟩ rfl
    · have hve : v.i = q.p.up.length + q.p.dn.length + 1 := by omega
      repeat' (first | refine ai ?_ | refine aa ?_ | refine ab ?_ | refine ag ?_ | ((refine' am rfl ?_ J J ?_); rotate_left; first | exact bN J J J J J (by omega) | exact ak af J J J J | exact aq af J J J J J J | exact ae af 6 J J J J J | exact bh af J J J J J J J))
      refine ar rfl (decide_eq_false (by omega)) ?_
      repeat' (first | refine aa ?_ | refine ab ?_ | refine bq ?_ | refine aN ?_ | refine ax ?_ | refine aT ?_ | refine ag ?_ | ((refine' am rfl ?_ J J ?_); rotate_left; first | exact bN J J J J J (by omega) | exact ak af J J J J))
      exact bA (⟨u.i + 1, v.p, v.Fc, v.Fs⟩ : LS) [] ⟨by dsimp only; omega, hpv, by dsimp only; rw [hmv, hve, h2, h1, hmu]; rfl, hvu, hvd⟩ (show 2 * (q.p.up.length + q.p.dn.length) + 2 - (u.i + 1) < 2 * (q.p.up.length + q.p.dn.length) + 2 - u.i by omega) ⟨J, J, trivial⟩ rfl
  · have hue : u.i = 2 * (q.p.up.length + q.p.dn.length) + 2 := by omega
    have hall := Ar hps (by omega) u.i (by rw [hue]; exact Nat.le_refl _)
    rw [show (dy q.p).up.length + (dy q.p).dn.length + 1 = q.p.up.length + q.p.dn.length + 1 from rfl, ← hmu] at hall
    obtain ⟨hfu, hgu, hgd, _, _⟩ := hall
    have hfu : u.p.fine = true := hfu
    have ea : u.p.up = u.p.gS ++ [] := by rw [List.append_nil]; exact hgu.symm
    have eb : u.p.gS = u.p.up ++ [] := by rw [List.append_nil]; exact hgu
    have ec : u.p.dn = u.p.gC ++ [] := by rw [List.append_nil]; exact hgd.symm
    have ed : u.p.gC = u.p.dn ++ [] := by rw [List.append_nil]; exact hgd
    have za : u.p.gS.length = u.p.up.length := congrArg List.length hgu
    have zb : u.p.gC.length = u.p.dn.length := congrArg List.length hgd
    repeat' (first | refine ai ?_ | refine aa ?_ | refine ab ?_ | refine ag ?_ | ((refine' am rfl ?_ J J ?_); rotate_left; first | exact bN J J J J J (by omega) | exact B3 (v := .int .i64 (2 * ((q.p.up.length : Int) + q.p.dn.length))) (aq af J J J J J J) (congrArg (Value.int .i64) (MU u.p hlu hld)) | exact ak af J J J J | exact aq af J J J J J J | exact ae af 6 J J J J J | exact bh af J J J J J J J))
    refine ar rfl (decide_eq_false (by omega)) ?_
    repeat' (first | refine ai ?_ | refine aa ?_ | refine ab ?_ | refine aA ?_ | refine bq ?_ | refine aN ?_ | refine aT ?_ | refine ag ?_ | ((refine' am rfl ?_ J J ?_); rotate_left; first | exact ak af J J J J | exact bK J J J J J | exact ae af 6 J J J J J) | refine aK rfl (av J J J J ⟨J, J, trivial⟩ rfl (by kernel_rfl)) (fun w hm => fS (A := fun b => _ ≤ b) (B := fun b => _ ≤ b) u.p.u u.p.up u.p.uc u.p.gs u.p.gS _ u.p.gsc w (Rws.own cT (hm.2.get (i := 0) rfl)) (Rws.own cT (hm.2.get (i := 2) rfl)) eb (by omega)) J J ?_ | refine aK rfl (av J J J J ⟨J, J, trivial⟩ rfl (by kernel_rfl)) (fun w hm => fS (A := fun b => _ ≤ b) (B := fun b => _ ≤ b) u.p.gs u.p.gS u.p.gsc u.p.u u.p.up _ u.p.uc w (Rws.own cT (hm.2.get (i := 2) rfl)) (Rws.own cT (hm.2.get (i := 0) rfl)) ea (by omega)) J J ?_ | refine aK rfl (av J J J J ⟨J, J, trivial⟩ rfl (by kernel_rfl)) (fun w hm => fS (A := fun b => _ ≤ b) (B := fun b => _ ≤ b) u.p.d u.p.dn u.p.dc u.p.gc u.p.gC _ u.p.gcc w (Rws.own cT (hm.2.get (i := 1) rfl)) (Rws.own cT (hm.2.get (i := 3) rfl)) ed (by omega)) J J ?_ | refine aK rfl (av J J J J ⟨J, J, trivial⟩ rfl (by kernel_rfl)) (fun w hm => fS (A := fun b => _ ≤ b) (B := fun b => _ ≤ b) u.p.gc u.p.gC u.p.gcc u.p.d u.p.dn _ u.p.dc w (Rws.own cT (hm.2.get (i := 3) rfl)) (Rws.own cT (hm.2.get (i := 1) rfl)) ec (by omega)) J J ?_ | refine aK rfl (av J J J J trivial rfl (by kernel_rfl)) (fun w hm => BI w (hg.below hm.below)) J J ?_)
    refine aC af (fun _ => 0) J J trivial rfl fun w hm => ⟨?_, hm.below⟩
    rw [hfu]
    rfl
end Go.Proofs.YthiocbcokfondaaGreatDoor.Y
