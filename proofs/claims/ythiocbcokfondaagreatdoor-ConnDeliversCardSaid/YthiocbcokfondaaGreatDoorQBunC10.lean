/- Texts of this claim merged into one: QCn10, QCn11. -/
import Derived.Test.YthiocbcokfondaaGreatDoorQBunC9
namespace Go.Proofs.YthiocbcokfondaaGreatDoor.Y
open Go.RowKit
attribute [local irreducible] Calls
set_option maxRecDepth 100000 in
set_option maxHeartbeats 16000000 in
theorem zD (v : NV) (w : World) : Calls Tryz.prog 27 #[.agg #[.int .i64 v.c.sd, .int .i64 v.c.nx, .int .i64 v.c.la, .int .i64 v.c.aw, .int .i64 v.c.sz, .int .i64 v.c.sw.size, .int .i64 v.c.sw.left, .int .i64 v.c.sw.held, .int .i64 v.c.rw.size, .int .i64 v.c.rw.left, .int .i64 v.c.rw.held, .slice v.x v.kv.length v.xc, .slice v.o v.c.ou.length v.oc, .slice v.p v.c.pg.length v.pc, .bool v.c.cl]] w fun e w' => e = .returned (.bool (qu v.c)) ∧ Below w.heap.size w w' := by
  refine aQ Tryz.func27 rfl Tryz.ntmps27 J J ?_
  repeat' (first | refine ai ?_ | refine aa ?_ | refine ab ?_ | refine aA ?_ | refine ay ?_ | refine au ?_ | refine ag ?_ | ((refine' am rfl ?_ J J ?_); rotate_left; first | exact ak af J J J J | exact aq af J J J J J J | exact bL J J J J J | exact bK J J J J J | exact ae af 0 J J J J J) | refine aK rfl (av J J J J ⟨J, trivial⟩ rfl (by kernel_rfl)) (fun w hm => fQ ⟨_, _, _⟩ w) J J ?_ | (refine aV J J J J J J ?_; intro g) | refine dd rfl (fun h => ?_) (fun h => ?_))
  all_goals
    refine aC af (fun _ => 0) J J trivial rfl fun w hm => ⟨?_, hm.below⟩
    refine congrArg (fun b => Ending.returned (Value.bool b)) ?_
    clear hm
    have w1 := fun h => IntWalk.i64_in (v.c.la + 1) h
    unfold qu
    generalize bl v.c.sw = b1 at *
    generalize bl v.c.rw = b2 at *
    grind
theorem EM (u : KV) (n : Int) (h : aW u.k.ib = n) {A : Nat → Prop} (w : World) (hI : Rws A w 1 sC u.i u.k.ib) (hub : aW u.k.ib ≤ 4611686018427387904) (hzi : u.k.ib.length ≤ 8796093022208) : Calls Tryz.prog 78 #[.agg #[.int .i64 u.k.st.id, .int .i64 u.k.st.side, .int .i64 u.k.st.shape, .int .i64 u.k.st.sent, .int .i64 u.k.st.got, .bool u.k.st.se, .bool u.k.st.ge, .bool u.k.st.done, .int .i64 u.k.st.code, .string u.k.st.text, .int .i64 u.k.st.snd.size, .int .i64 u.k.st.snd.left, .int .i64 u.k.st.snd.held, .int .i64 u.k.st.rcv.size, .int .i64 u.k.st.rcv.left, .int .i64 u.k.st.rcv.held, .string u.k.sv, .string u.k.mt, .int .i64 u.k.lt, .slice u.m u.k.ms.length u.mc, .slice u.i u.k.ib.length u.ic, .slice u.o u.k.ob.length u.oc]] w fun e w' => e = .returned (.int .i64 n) ∧ Below w.heap.size w w' := by
  subst h
  exact oX u w hI hub hzi
theorem zE {c : NL} {s : cx} {f : aY} {r : List aY} {b : Bool} : fg c (f :: r) b s = ((f.kind == 2 || f.kind == 3 || f.kind == 4) && !(b && (f.kind != 2 || (decide (aI f.data ≤ s.snd.left) && decide (aI f.data ≤ c.sw.left)))) && fg c r false s) := rfl
set_option maxRecDepth 100000 in
set_option maxHeartbeats 16000000 in
theorem zF {A : Nat → Prop} (v : NV) (u : KV) (w : World) (hO : Rws A w 4 fC u.o u.k.ob) (hI : Rws A w 1 sC u.i u.k.ib) (hub : aW u.k.ib ≤ 4611686018427387904) (hzi : u.k.ib.length ≤ 8796093022208) (hzo : u.k.ob.length ≤ 3518437208883) (htx : u.k.st.text.size ≤ 4611686018427387900) (hfd : ∀ f ∈ u.k.ob, f.data.size < 4294967281) (hg : MLen w) : Calls Tryz.prog 72 #[.agg #[.int .i64 v.c.sd, .int .i64 v.c.nx, .int .i64 v.c.la, .int .i64 v.c.aw, .int .i64 v.c.sz, .int .i64 v.c.sw.size, .int .i64 v.c.sw.left, .int .i64 v.c.sw.held, .int .i64 v.c.rw.size, .int .i64 v.c.rw.left, .int .i64 v.c.rw.held, .slice v.x v.kv.length v.xc, .slice v.o v.c.ou.length v.oc, .slice v.p v.c.pg.length v.pc, .bool v.c.cl], .agg #[.int .i64 u.k.st.id, .int .i64 u.k.st.side, .int .i64 u.k.st.shape, .int .i64 u.k.st.sent, .int .i64 u.k.st.got, .bool u.k.st.se, .bool u.k.st.ge, .bool u.k.st.done, .int .i64 u.k.st.code, .string u.k.st.text, .int .i64 u.k.st.snd.size, .int .i64 u.k.st.snd.left, .int .i64 u.k.st.snd.held, .int .i64 u.k.st.rcv.size, .int .i64 u.k.st.rcv.left, .int .i64 u.k.st.rcv.held, .string u.k.sv, .string u.k.mt, .int .i64 u.k.lt, .slice u.m u.k.ms.length u.mc, .slice u.i u.k.ib.length u.ic, .slice u.o u.k.ob.length u.oc]] w fun e w' => e = .returned (.bool (decide (aW u.k.ib ≤ u.k.st.rcv.held) && decide ((cy u.k.ob u.k.st).err = 0) && fg v.c u.k.ob true u.k.st)) ∧ Below w.heap.size w w' := by
  refine aQ Tryz.func72 rfl Tryz.ntmps72 J J ?_
  obtain ⟨n, hn⟩ : ∃ n, aW u.k.ib = n := ⟨_, rfl⟩
  obtain ⟨r, hr⟩ : ∃ r, cy u.k.ob u.k.st = r := ⟨_, rfl⟩
  rw [hn, hr]
  refine ai ?_
  refine aa ?_
  (refine aV J J J J J J ?_; intro g2)
  (refine aV J J J J J J ?_; intro g3)
  repeat' (first | refine ai ?_ | refine ab ?_ | refine aU aD rfl (by kernel_rfl) ?_ | refine ag ?_ | refine bH ?_ | ((first | refine' am rfl ?_ J J ?_ | refine' dg rfl ?_ J J J ?_); rotate_left; first | exact ak af J J J J | exact aq af J J J J J J | exact ae af 0 J J J J J) | refine br rfl (av J J J J ⟨J, trivial⟩ rfl (by kernel_rfl)) rfl (fun w hm => EM u n hn w (hI.below hm.below) hub hzi) J J ?_)
  by_cases h1 : n ≤ u.k.st.rcv.held
  rotate_left
  · refine aB rfl (by simp; omega) ?_
    repeat' (first | refine ai ?_ | refine aa ?_ | refine ab ?_ | refine aA ?_ | refine au ?_ | refine ag ?_ | ((refine' am rfl ?_ J J ?_); rotate_left; exact ak af J J J J))
    refine aC af (fun _ => 0) J J trivial rfl fun w hm => ⟨?_, hm.below⟩
    simp [h1]
  refine ar rfl (by simp; omega) ?_
  repeat' (first | refine ai ?_ | refine aa ?_ | refine ab ?_ | refine ay ?_ | refine ag ?_ | (refine aG af J J J J J J ?_; intro g5) | ((refine' am rfl ?_ J J ?_); rotate_left; first | exact ak af J J J J | exact aq af J J J J J J | exact ae af 0 J J J J J) | refine aK rfl (av J J J J ⟨J, trivial⟩ rfl (by kernel_rfl)) (fun w hm => D1 u r hr w (hO.below hm.below) hzo htx hfd (hg.below hm.below)) J J ?_ | refine aj af 0 J J J J J J J J J J J J ?_)
  by_cases h2 : r.err = 0
  rotate_left
  · refine aB rfl (by simpa using h2) ?_
    repeat' (first | refine ai ?_ | refine aa ?_ | refine ab ?_ | refine aA ?_ | refine au ?_ | refine ag ?_ | ((refine' am rfl ?_ J J ?_); rotate_left; exact ak af J J J J))
    refine aC af (fun _ => 0) J J trivial rfl fun w hm => ⟨?_, hm.below⟩
    simp [h2]
  refine ar rfl (by simpa using h2) ?_
  repeat' (first | refine ai ?_ | refine aa ?_ | refine ab ?_ | refine ay ?_ | refine aJ ?_ | refine ag ?_ | ((refine' am rfl ?_ J J ?_); rotate_left; first | exact ak af J J J J | exact ae af 1 J J J J J | exact bh af J J J J J J J))
  refine cK (σ := Nat) (fun j => j ≤ u.k.ob.length ∧ fg v.c u.k.ob true u.k.st = fg v.c (u.k.ob.drop j) (j == 0) u.k.st) (fun j => [(27, [], .int .i64 ((j : Nat) : Int)), (26, [], .int .i64 ((u.k.ob.length : Nat) : Int)), (25, [], .slice u.o u.k.ob.length u.oc), (2, [], .pointer (some ⟨g2, 0, none⟩)), (3, [], .pointer (some ⟨g3, 0, none⟩))]) (fun _ => [.cl g3 39 [.int .i64 u.k.st.id, .int .i64 u.k.st.side, .int .i64 u.k.st.shape, .int .i64 u.k.st.sent, .int .i64 u.k.st.got, .bool u.k.st.se, .bool u.k.st.ge, .bool u.k.st.done, .int .i64 u.k.st.code, .string u.k.st.text, .int .i64 u.k.st.snd.size, .int .i64 u.k.st.snd.left, .int .i64 u.k.st.snd.held, .int .i64 u.k.st.rcv.size, .int .i64 u.k.st.rcv.left, .int .i64 u.k.st.rcv.held, .string u.k.sv, .string u.k.mt, .int .i64 u.k.lt, .slice u.m u.k.ms.length u.mc, .slice u.i u.k.ib.length u.ic, .slice u.o u.k.ob.length u.oc], .cl g2 28 [.int .i64 v.c.sd, .int .i64 v.c.nx, .int .i64 v.c.la, .int .i64 v.c.aw, .int .i64 v.c.sz, .int .i64 v.c.sw.size, .int .i64 v.c.sw.left, .int .i64 v.c.sw.held, .int .i64 v.c.rw.size, .int .i64 v.c.rw.left, .int .i64 v.c.rw.held, .slice v.x v.kv.length v.xc, .slice v.o v.c.ou.length v.oc, .slice v.p v.c.pg.length v.pc, .bool v.c.cl]]) (fun j => u.k.ob.length - j) 0 [false, true, true] ⟨Nat.zero_le _, rfl⟩ ⟨J, J, J, J, J, trivial⟩ rfl ?_
  rintro j ⟨hj0, hw⟩
  by_cases hj : j < u.k.ob.length
  · obtain ⟨f, hf⟩ : ∃ f, u.k.ob[j]? = some f := ⟨u.k.ob[j], List.getElem?_eq_getElem hj⟩
    obtain ⟨bb, off, hx, _, _, hrows⟩ := hO (by omega)
    have hrow : w.rangeAt bb (off + j * 4) (fC f) := hrows j f hf
    rw [eJ hf, zE] at hw
    rw [hx]
    repeat' (first | refine ai ?_ | refine aa ?_ | refine ab ?_ | refine ag ?_ | ((refine' am rfl ?_ J J ?_); rotate_left; exact aq af J J J J J J))
    refine aB rfl (by simp; omega) ?_
    repeat' (first | refine ai ?_ | refine aa ?_ | refine ab ?_ | refine ay ?_ | refine aJ ?_ | refine ag ?_ | (refine aG af J J J J J J ?_; intro g8) | ((refine' am rfl ?_ J J ?_); rotate_left; first | exact cm af (m := 4) j J J J J J J J J (fun _ => rfl) (fun _ => hj) | exact dC af (cs := fC f) J J J J J (fun _ => hrow) | exact ak af J J J J | exact aq af J J J J J J | exact bK J J J J J | exact ae af 0 J J J J J) | refine aj af 0 J J J J J J J J J J J J ?_)
    by_cases hk : f.kind = 2 ∨ f.kind = 3 ∨ f.kind = 4
    rotate_left
    · refine aB rfl (by simp; omega) ?_
      repeat' (first | refine ai ?_ | refine aa ?_ | refine ab ?_ | refine aA ?_ | refine au ?_ | refine ba ?_ | refine ag ?_ | ((refine' am rfl ?_ J J ?_); rotate_left; exact ak af J J J J))
      refine aC af (fun _ => 0) J J trivial rfl fun w hm => ⟨?_, hm.below⟩
      have hkb : (f.kind == 2 || f.kind == 3 || f.kind == 4) = false := by simp; omega
      rw [hw, hkb]
      simp
    have hkb : (f.kind == 2 || f.kind == 3 || f.kind == 4) = true := by simp; omega
    have hj0b : (((j : Nat) : Int) == 0) = (j == 0) := by rw [Bool.eq_iff_iff]; simp
    rw [hkb, Bool.true_and] at hw
    refine ar rfl (by simp; omega) ?_
    repeat' (first | refine ai ?_ | refine aa ?_ | refine ab ?_ | refine ay ?_ | refine ag ?_ | ((refine' am rfl ?_ J J ?_); rotate_left; first | exact ak af J J J J | exact aq af J J J J J J | exact bL J J J J J | exact bK J J J J J | exact ae af 0 J J J J J | exact ae af 1 J J J J J | exact ae af 2 J J J J J) | refine aK rfl (av J J J J ⟨J, trivial⟩ rfl (by kernel_rfl)) (fun w hm => hJ f.data w) J J ?_)
    by_cases hb : ((j == 0) && (f.kind != 2 || (decide (aI f.data ≤ u.k.st.snd.left) && decide (aI f.data ≤ v.c.sw.left)))) = true
    · refine aB rfl (by rw [hj0b]; exact hb) ?_
      repeat' (first | refine ai ?_ | refine aa ?_ | refine ab ?_ | refine aA ?_ | refine au ?_ | refine ba ?_ | refine ag ?_ | ((refine' am rfl ?_ J J ?_); rotate_left; exact ak af J J J J))
      refine aC af (fun _ => 0) J J trivial rfl fun w hm => ⟨?_, hm.below⟩
      rw [hw, hb]
      simp
    · have hb' := eq_false_of_ne_true hb
      rw [hb', Bool.not_false, Bool.true_and] at hw
      refine ar rfl (by rw [hj0b]; exact hb') ?_
      repeat' (first | refine aa ?_ | refine ab ?_ | refine ay ?_ | refine ax ?_ | refine ag ?_ | ((refine' am rfl ?_ J J ?_); rotate_left; first | exact bN J J J J J (by omega) | exact ak af J J J J))
      rw [← hx]
      refine bA (j + 1) [false, true, true] ⟨hj, by rw [hw]; rfl⟩ (show u.k.ob.length - (j + 1) < u.k.ob.length - j by omega) ⟨J, J, J, J, J, trivial⟩ rfl
  · rw [List.drop_eq_nil_of_le (by omega)] at hw
    repeat' (first | refine ai ?_ | refine aa ?_ | refine ab ?_ | refine ag ?_ | ((refine' am rfl ?_ J J ?_); rotate_left; exact aq af J J J J J J))
    refine ar rfl (by simp; omega) ?_
    repeat' (first | refine ai ?_ | refine aa ?_ | refine ab ?_ | refine aA ?_ | refine bq ?_ | refine aN ?_ | refine aT ?_ | refine ag ?_ | ((refine' am rfl ?_ J J ?_); rotate_left; exact ak af J J J J))
    refine aC af (fun _ => 0) J J trivial rfl fun w hm => ⟨?_, hm.below⟩
    rw [hw]
    simp [h1, h2, fg]
theorem D4 (bv : Bool) (a b c d e f : Int) : (!bv || a != b || c != d || e != d || f != 0) = !(bv && decide (a = b) && decide (c = d) && decide (e = d) && decide (f = 0)) := by
  cases bv <;> by_cases h1 : a = b <;> by_cases h2 : c = d <;> by_cases h3 : e = d <;> by_cases h4 : f = 0 <;> simp [h1, h2, h3, h4]
theorem D5 (s : cx) (b : Bool) (h : ei s = b) (w : World) (htx : s.text.size ≤ 4611686018427387900) : Calls Tryz.prog 71 #[.agg #[.int .i64 s.id, .int .i64 s.side, .int .i64 s.shape, .int .i64 s.sent, .int .i64 s.got, .bool s.se, .bool s.ge, .bool s.done, .int .i64 s.code, .string s.text, .int .i64 s.snd.size, .int .i64 s.snd.left, .int .i64 s.snd.held, .int .i64 s.rcv.size, .int .i64 s.rcv.left, .int .i64 s.rcv.held]] w fun e w' => e = .returned (.bool b) ∧ Below w.heap.size w w' := by
  subst h
  exact kE s.id s.side s.shape s.sent s.got s.se s.ge s.done s.code s.text s.snd.size s.snd.left s.snd.held s.rcv.size s.rcv.left s.rcv.held w htx
theorem D6 {A : Nat → Prop} (v : NV) (u : KV) (b : Bool) (h : (decide (aW u.k.ib ≤ u.k.st.rcv.held) && decide ((cy u.k.ob u.k.st).err = 0) && fg v.c u.k.ob true u.k.st) = b) (w : World)  (hO : Rws A w 4 fC u.o u.k.ob) (hI : Rws A w 1 sC u.i u.k.ib) (hub : aW u.k.ib ≤ 4611686018427387904) (hzi : u.k.ib.length ≤ 8796093022208) (hzo : u.k.ob.length ≤ 3518437208883) (htx : u.k.st.text.size ≤ 4611686018427387900) (hfd : ∀ f ∈ u.k.ob, f.data.size < 4294967281) (hg : MLen w) : Calls Tryz.prog 72 #[.agg #[.int .i64 v.c.sd, .int .i64 v.c.nx, .int .i64 v.c.la, .int .i64 v.c.aw, .int .i64 v.c.sz, .int .i64 v.c.sw.size, .int .i64 v.c.sw.left, .int .i64 v.c.sw.held, .int .i64 v.c.rw.size, .int .i64 v.c.rw.left, .int .i64 v.c.rw.held, .slice v.x v.kv.length v.xc, .slice v.o v.c.ou.length v.oc, .slice v.p v.c.pg.length v.pc, .bool v.c.cl], .agg #[.int .i64 u.k.st.id, .int .i64 u.k.st.side, .int .i64 u.k.st.shape, .int .i64 u.k.st.sent, .int .i64 u.k.st.got, .bool u.k.st.se, .bool u.k.st.ge, .bool u.k.st.done, .int .i64 u.k.st.code, .string u.k.st.text, .int .i64 u.k.st.snd.size, .int .i64 u.k.st.snd.left, .int .i64 u.k.st.snd.held, .int .i64 u.k.st.rcv.size, .int .i64 u.k.st.rcv.left, .int .i64 u.k.st.rcv.held, .string u.k.sv, .string u.k.mt, .int .i64 u.k.lt, .slice u.m u.k.ms.length u.mc, .slice u.i u.k.ib.length u.ic, .slice u.o u.k.ob.length u.oc]] w fun e w' => e = .returned (.bool b) ∧ Below w.heap.size w w' := by
  subst h
  exact zF v u w hO hI hub hzi hzo htx hfd hg
set_option maxRecDepth 100000 in
set_option maxHeartbeats 16000000 in
theorem zG {A : Nat → Prop} (v : NV) (u : KV) (w : World) (hO : Rws A w 4 fC u.o u.k.ob) (hI : Rws A w 1 sC u.i u.k.ib) (hub : aW u.k.ib ≤ 4611686018427387904) (hzi : u.k.ib.length ≤ 8796093022208) (hzo : u.k.ob.length ≤ 3518437208883) (htx : u.k.st.text.size ≤ 4611686018427387900) (hfd : ∀ f ∈ u.k.ob, f.data.size < 4294967281) (hg : MLen w) (hM : Rws A w 2 mC u.m u.k.ms) (hhz : ii u.k.hd) : Calls Tryz.prog 29 #[.agg #[.int .i64 v.c.sd, .int .i64 v.c.nx, .int .i64 v.c.la, .int .i64 v.c.aw, .int .i64 v.c.sz, .int .i64 v.c.sw.size, .int .i64 v.c.sw.left, .int .i64 v.c.sw.held, .int .i64 v.c.rw.size, .int .i64 v.c.rw.left, .int .i64 v.c.rw.held, .slice v.x v.kv.length v.xc, .slice v.o v.c.ou.length v.oc, .slice v.p v.c.pg.length v.pc, .bool v.c.cl], .agg #[.int .i64 u.k.st.id, .int .i64 u.k.st.side, .int .i64 u.k.st.shape, .int .i64 u.k.st.sent, .int .i64 u.k.st.got, .bool u.k.st.se, .bool u.k.st.ge, .bool u.k.st.done, .int .i64 u.k.st.code, .string u.k.st.text, .int .i64 u.k.st.snd.size, .int .i64 u.k.st.snd.left, .int .i64 u.k.st.snd.held, .int .i64 u.k.st.rcv.size, .int .i64 u.k.st.rcv.left, .int .i64 u.k.st.rcv.held, .string u.k.sv, .string u.k.mt, .int .i64 u.k.lt, .slice u.m u.k.ms.length u.mc, .slice u.i u.k.ib.length u.ic, .slice u.o u.k.ob.length u.oc]] w fun e w' => e = .returned (.bool (callOk v.c u.k)) ∧ Below w.heap.size w w' := by
  refine aQ Tryz.func29 rfl Tryz.ntmps29 J J ?_
  obtain ⟨bv, hbv⟩ : ∃ x, ei u.k.st = x := ⟨_, rfl⟩
  obtain ⟨eh, heh⟩ : ∃ x, bo u.k.hd = x := ⟨_, rfl⟩
  obtain ⟨bw, hbw⟩ : ∃ x, (decide (aW u.k.ib ≤ u.k.st.rcv.held) && decide ((cy u.k.ob u.k.st).err = 0) && fg v.c u.k.ob true u.k.st) = x := ⟨_, rfl⟩
  unfold callOk
  rw [hbv, heh, hbw]
  refine ai ?_
  refine aa ?_
  (refine aV J J J J J J ?_; intro g2)
  (refine aV J J J J J J ?_; intro g3)
  repeat' (first | refine ai ?_ | refine aa ?_ | refine ab ?_ | refine ag ?_ | (refine aG af J J J J J J ?_; intro g5) | ((refine' am rfl ?_ J J ?_); rotate_left; first | exact ak af J J J J | exact aq af J J J J J J | exact bL J J J J J | exact ae af 0 J J J J J | exact ae af 2 J J J J J) | refine aK rfl (av J J J J ⟨J, trivial⟩ rfl (by kernel_rfl)) (fun w hm => D5 u.k.st bv hbv w htx) J J ?_ | refine aj af 0 J J J J J J J J J J J J ?_)
  obtain ⟨a1, ha1⟩ : ∃ x, (bv && decide (u.k.st.side = v.c.sd) && decide (u.k.st.snd.size = v.c.sz) && decide (u.k.st.rcv.size = v.c.sz) && decide (u.k.st.snd.held = 0)) = x := ⟨_, rfl⟩
  rw [ha1]
  cases a1 with
  | false =>
    refine aB rfl (by rw [D4, ha1]; rfl) ?_
    repeat' (first | refine ai ?_ | refine aa ?_ | refine ab ?_ | refine aA ?_ | refine au ?_ | refine ag ?_ | ((refine' am rfl ?_ J J ?_); rotate_left; exact ak af J J J J))
    refine aC af (fun _ => 0) J J trivial rfl fun w hm => ⟨?_, hm.below⟩
    rfl
  | true =>
  refine ar rfl (by rw [D4, ha1]; rfl) ?_
  repeat' (first | refine ai ?_ | refine aa ?_ | refine ab ?_ | refine ay ?_ | refine ag ?_ | ((refine' am rfl ?_ J J ?_); rotate_left; first | exact ak af J J J J | exact aq af J J J J J J | exact ae af 1 J J J J J) | refine aK rfl (av J J J J ⟨J, trivial⟩ rfl (by kernel_rfl)) (fun w hm => Ce u.k.hd u.m u.mc eh heh w (hg.below hm.below) (hM.below hm.below) hhz) J J ?_)
  by_cases h2 : eh = 0
  rotate_left
  · refine aB rfl (by simpa using h2) ?_
    repeat' (first | refine ai ?_ | refine aa ?_ | refine ab ?_ | refine aA ?_ | refine au ?_ | refine ag ?_ | ((refine' am rfl ?_ J J ?_); rotate_left; exact ak af J J J J))
    refine aC af (fun _ => 0) J J trivial rfl fun w hm => ⟨?_, hm.below⟩
    simp [h2]
  refine ar rfl (by simpa using h2) ?_
  repeat' (first | refine ai ?_ | refine aa ?_ | refine ab ?_ | refine ay ?_ | refine aJ ?_ | refine ag ?_ | ((refine' am rfl ?_ J J ?_); rotate_left; first | exact ak af J J J J | exact ae af 1 J J J J J | exact bh af J J J J J J J))
  refine cK (σ := Nat) (fun j => j ≤ u.k.ib.length ∧ u.k.ib.all (fun m => decide (m.size ≤ 16384)) = (u.k.ib.drop j).all (fun m => decide (m.size ≤ 16384))) (fun j => [(55, [], .int .i64 ((j : Nat) : Int)), (54, [], .int .i64 ((u.k.ib.length : Nat) : Int)), (53, [], .slice u.i u.k.ib.length u.ic), (2, [], .pointer (some ⟨g2, 0, none⟩)), (3, [], .pointer (some ⟨g3, 0, none⟩)), (5, [], .pointer (some ⟨g5, 0, none⟩))]) (fun _ => [.cl g5 33 (tC u.k.st), .cl g3 39 [.int .i64 u.k.st.id, .int .i64 u.k.st.side, .int .i64 u.k.st.shape, .int .i64 u.k.st.sent, .int .i64 u.k.st.got, .bool u.k.st.se, .bool u.k.st.ge, .bool u.k.st.done, .int .i64 u.k.st.code, .string u.k.st.text, .int .i64 u.k.st.snd.size, .int .i64 u.k.st.snd.left, .int .i64 u.k.st.snd.held, .int .i64 u.k.st.rcv.size, .int .i64 u.k.st.rcv.left, .int .i64 u.k.st.rcv.held, .string u.k.sv, .string u.k.mt, .int .i64 u.k.lt, .slice u.m u.k.ms.length u.mc, .slice u.i u.k.ib.length u.ic, .slice u.o u.k.ob.length u.oc], .cl g2 28 [.int .i64 v.c.sd, .int .i64 v.c.nx, .int .i64 v.c.la, .int .i64 v.c.aw, .int .i64 v.c.sz, .int .i64 v.c.sw.size, .int .i64 v.c.sw.left, .int .i64 v.c.sw.held, .int .i64 v.c.rw.size, .int .i64 v.c.rw.left, .int .i64 v.c.rw.held, .slice v.x v.kv.length v.xc, .slice v.o v.c.ou.length v.oc, .slice v.p v.c.pg.length v.pc, .bool v.c.cl]]) (fun j => u.k.ib.length - j) 0 [true, true, true] ⟨Nat.zero_le _, rfl⟩ ⟨J, J, J, J, J, J, trivial⟩ rfl ?_
  rintro j ⟨hj0, hw⟩
  by_cases hj : j < u.k.ib.length
  · obtain ⟨s, hs⟩ : ∃ s, u.k.ib[j]? = some s := ⟨u.k.ib[j], List.getElem?_eq_getElem hj⟩
    obtain ⟨bb, off, hx, _, _, hrows⟩ := hI (by omega)
    have hrow : w.rangeAt bb (off + j * 1) (sC s) := hrows j s hs
    rw [eJ hs, List.all_cons] at hw
    rw [hx]
    repeat' (first | refine ai ?_ | refine aa ?_ | refine ab ?_ | refine ag ?_ | ((refine' am rfl ?_ J J ?_); rotate_left; exact aq af J J J J J J))
    refine aB rfl (by simp; omega) ?_
    repeat' (first | refine ai ?_ | refine aa ?_ | refine ab ?_ | refine ay ?_ | refine aJ ?_ | refine ag ?_ | ((refine' am rfl ?_ J J ?_); rotate_left; first | exact cm af (m := 1) j J J J J J J J J (fun _ => rfl) (fun _ => hj) | exact eH af (v := .string s) J J J J J (fun _ => hrow 0 _ rfl) | exact ak af J J J J | exact aq af J J J J J J | exact bh af J J J J J J J))
    by_cases hk : s.size ≤ 16384
    · rw [decide_eq_true hk, Bool.true_and] at hw
      refine ar rfl (by simp; omega) ?_
      repeat' (first | refine aa ?_ | refine ab ?_ | refine ay ?_ | refine ax ?_ | refine ag ?_ | ((refine' am rfl ?_ J J ?_); rotate_left; first | exact bN J J J J J (by omega) | exact ak af J J J J))
      rw [← hx]
      refine bA (j + 1) [true, true, true] ⟨hj, hw⟩ (show u.k.ib.length - (j + 1) < u.k.ib.length - j by omega) ⟨J, J, J, J, J, J, trivial⟩ rfl
    · rw [decide_eq_false hk, Bool.false_and] at hw
      refine aB rfl (by simp; omega) ?_
      repeat' (first | refine ai ?_ | refine aa ?_ | refine ab ?_ | refine aA ?_ | refine au ?_ | refine ba ?_ | refine ag ?_ | ((refine' am rfl ?_ J J ?_); rotate_left; exact ak af J J J J))
      refine aC af (fun _ => 0) J J trivial rfl fun w hm => ⟨?_, hm.below⟩
      rw [hw]
      simp
  · rw [List.drop_eq_nil_of_le (by omega), List.all_nil] at hw
    rw [hw]
    repeat' (first | refine ai ?_ | refine aa ?_ | refine ab ?_ | refine ag ?_ | ((refine' am rfl ?_ J J ?_); rotate_left; exact aq af J J J J J J))
    refine ar rfl (by simp; omega) ?_
    repeat' (first | refine ai ?_ | refine aa ?_ | refine ab ?_ | refine bq ?_ | refine aN ?_ | refine aT ?_ | refine ag ?_ | ((refine' am rfl ?_ J J ?_); rotate_left; first | exact ak af J J J J | exact ae af 0 J J J J J))
    by_cases hd : u.k.st.done = true
    · refine aB rfl hd ?_
      repeat' (first | refine ai ?_ | refine aa ?_ | refine ab ?_ | refine aA ?_ | refine au ?_ | refine ag ?_ | ((refine' am rfl ?_ J J ?_); rotate_left; first | exact ak af J J J J | exact aq af J J J J J J | exact ae af 1 J J J J J | exact bh af J J J J J J J))
      refine aC af (fun _ => 0) J J trivial rfl fun w hm => ⟨?_, hm.below⟩
      simp [h2, hd]
      rw [Bool.eq_iff_iff]
      simp
    · refine ar rfl (eq_false_of_ne_true hd) ?_
      repeat' (first | refine ai ?_ | refine aa ?_ | refine ab ?_ | refine aA ?_ | refine ay ?_ | refine ag ?_ | ((refine' am rfl ?_ J J ?_); rotate_left; first | exact ak af J J J J | exact ae af 1 J J J J J | exact ae af 2 J J J J J) | refine aK rfl (av J J J J ⟨J, J, trivial⟩ rfl (by kernel_rfl)) (fun w hm => D6 v u bw hbw w (hO.below hm.below) (hI.below hm.below) hub hzi hzo htx hfd (hg.below hm.below)) J J ?_)
      refine aC af (fun _ => 0) J J trivial rfl fun w hm => ⟨?_, hm.below⟩
      simp [h2, hd]
end Go.Proofs.YthiocbcokfondaaGreatDoor.Y
namespace Go.Proofs.YthiocbcokfondaaGreatDoor.Y
open Go.RowKit
theorem BG {P : Program} {w0 : World} {S : bJ} {M : List Ent} {o : Oper} {b : Bool} {xs : Array Operand} {ts : Array TypeId} (_h1 : o.op = .call ⟨.builtin .len, xs, ts⟩) (h : b = true) : VO P w0 S M [(b, false)] o (.int .i64 0) := vS _ h
theorem wt {P : Program} {w0 : World} {S : bJ} {M : List Ent} {L : Cd} {o : Oper} {xs : Array Operand} {ts : Array TypeId} (_h1 : o.op = .call ⟨.builtin .len, xs, ts⟩) (h : aF L = false) : VO P w0 S M L o (.int .i64 0) := jr _ h
theorem tS {b : Bool} {c : Bool × Bool} (h : b = false) : aF [c, (b, true)] = false := by rw [h]; obtain ⟨x, y⟩ := c; simp [aF]
theorem tT {b : Bool} {c : Bool × Bool} (h : b = true) : aF [(b, false), c] = false := by rw [h]; rfl
def rgtGo (c : NL) : Option Int → List KR → Bool
  | _, [] => true
  | p, k :: r => if !callOk c k || decide (k.st.id > c.la) || (match p with | none => false | some x => decide (k.st.id ≤ x)) then false else rgtGo c (some k.st.id) r
theorem xD (c : NL) (p : Option Int) : rgtGo c p [] = true := by rw [rgtGo.eq_def]
theorem tU {c : NL} {p : Option Int} {k : KR} {r : List KR} (h : (!callOk c k || decide (k.st.id > c.la) || (match p with | none => false | some x => decide (k.st.id ≤ x))) = true) : rgtGo c p (k :: r) = false := by rw [rgtGo.eq_def]; dsimp only; rw [h]; rfl
theorem qQ {c : NL} {p : Option Int} {k : KR} {r : List KR} (h : (!callOk c k || decide (k.st.id > c.la) || (match p with | none => false | some x => decide (k.st.id ≤ x))) = false) : rgtGo c p (k :: r) = rgtGo c (some k.st.id) r := by rw [rgtGo.eq_def]; dsimp only; rw [h]; rfl
def Dq (c : NL) : Bool := !qu c || decide ((c.pg.length : Int) > 16) || decide ((pj c.ks : Int) > 64)
def BH (c : NL) : Bool := c.cl && (decide ((c.ou.length : Int) > 0) || decide ((pj c.ks : Int) > 0))
def tV (l : List Int) : Bool := l.all fun n => !(decide (n < 0) || decide (n > 4294967295))
def rR (l : List aY) : Bool := l.all fun f => decide (aR f = 0)
theorem xE (n : Int) (l : List Int) : tV (n :: l) = (!(decide (n < 0) || decide (n > 4294967295)) && tV l) := List.all_cons
theorem xF (f : aY) (l : List aY) : rR (f :: l) = (decide (aR f = 0) && rR l) := List.all_cons
def lz (c : NL) : Bool := if Dq c then false else if rgtGo c none c.ks then (if tV c.pg then (if rR c.ou then (if BH c then false else decide (be c.ks ≤ c.rw.held)) else false) else false) else false
structure Ff (v : NV) : Prop where
  ub : ∀ u ∈ v.kv, aW u.k.ib ≤ 4611686018427387904
  tb : be v.c.ks ≤ 4611686018427387904
  hd : ∀ u ∈ v.kv, ii u.k.hd
  of : ∀ f ∈ v.c.ou, f.data.size < 4294967281
attribute [local irreducible] Calls
theorem Cf (v : NV) (b : Bool) (h : qu v.c = b) (w : World) : Calls Tryz.prog 27 #[.agg #[.int .i64 v.c.sd, .int .i64 v.c.nx, .int .i64 v.c.la, .int .i64 v.c.aw, .int .i64 v.c.sz, .int .i64 v.c.sw.size, .int .i64 v.c.sw.left, .int .i64 v.c.sw.held, .int .i64 v.c.rw.size, .int .i64 v.c.rw.left, .int .i64 v.c.rw.held, .slice v.x v.kv.length v.xc, .slice v.o v.c.ou.length v.oc, .slice v.p v.c.pg.length v.pc, .bool v.c.cl]] w fun e w' => e = .returned (.bool b) ∧ Below w.heap.size w w' := by subst h; exact zD v w
theorem Cg {A : Nat → Prop} (v : NV) (u : KV) (b : Bool) (h : callOk v.c u.k = b) (w : World) (hK : KOk A w u) (hub : aW u.k.ib ≤ 4611686018427387904) (hs : Fa u.k) (htx : u.k.st.text.size ≤ 4611686018427387900) (hfd : ∀ f ∈ u.k.ob, f.data.size < 4294967281) (hg : MLen w) (hhz : ii u.k.hd) : Calls Tryz.prog 29 #[.agg #[.int .i64 v.c.sd, .int .i64 v.c.nx, .int .i64 v.c.la, .int .i64 v.c.aw, .int .i64 v.c.sz, .int .i64 v.c.sw.size, .int .i64 v.c.sw.left, .int .i64 v.c.sw.held, .int .i64 v.c.rw.size, .int .i64 v.c.rw.left, .int .i64 v.c.rw.held, .slice v.x v.kv.length v.xc, .slice v.o v.c.ou.length v.oc, .slice v.p v.c.pg.length v.pc, .bool v.c.cl], .agg #[.int .i64 u.k.st.id, .int .i64 u.k.st.side, .int .i64 u.k.st.shape, .int .i64 u.k.st.sent, .int .i64 u.k.st.got, .bool u.k.st.se, .bool u.k.st.ge, .bool u.k.st.done, .int .i64 u.k.st.code, .string u.k.st.text, .int .i64 u.k.st.snd.size, .int .i64 u.k.st.snd.left, .int .i64 u.k.st.snd.held, .int .i64 u.k.st.rcv.size, .int .i64 u.k.st.rcv.left, .int .i64 u.k.st.rcv.held, .string u.k.sv, .string u.k.mt, .int .i64 u.k.lt, .slice u.m u.k.ms.length u.mc, .slice u.i u.k.ib.length u.ic, .slice u.o u.k.ob.length u.oc]] w fun e w' => e = .returned (.bool b) ∧ Below w.heap.size w w' := by
  subst h
  exact zG v u w hK.2.2 hK.2.1 hub hs.2.1 hs.2.2 htx hfd hg hK.1 hhz
theorem pr {A : Nat → Prop} (v : NV) (n : Int) (h : be v.c.ks = n) (w : World) (hN : NOk A w v) (hzk : v.kv.length ≤ 606626243774) (htb : be v.c.ks ≤ 4611686018427387904) (hzi : ∀ u ∈ v.kv, u.k.ib.length ≤ 8796093022208) : Calls Tryz.prog 31 #[.agg #[.int .i64 v.c.sd, .int .i64 v.c.nx, .int .i64 v.c.la, .int .i64 v.c.aw, .int .i64 v.c.sz, .int .i64 v.c.sw.size, .int .i64 v.c.sw.left, .int .i64 v.c.sw.held, .int .i64 v.c.rw.size, .int .i64 v.c.rw.left, .int .i64 v.c.rw.held, .slice v.x v.kv.length v.xc, .slice v.o v.c.ou.length v.oc, .slice v.p v.c.pg.length v.pc, .bool v.c.cl]] w fun e w' => e = .returned (.int .i64 n) ∧ Below w.heap.size w w' := by
  subst h
  exact zj v w hN hzk htb hzi
set_option maxRecDepth 100000 in
set_option maxHeartbeats 32000000 in
theorem zH {A : Nat → Prop} (v : NV) (w : World) (hN : NOk A w v) (hz : yS v) (hgd : Cc v) (hzv : Ff v) (hg : MLen w) : Calls Tryz.prog 8 #[.agg #[.int .i64 v.c.sd, .int .i64 v.c.nx, .int .i64 v.c.la, .int .i64 v.c.aw, .int .i64 v.c.sz, .int .i64 v.c.sw.size, .int .i64 v.c.sw.left, .int .i64 v.c.sw.held, .int .i64 v.c.rw.size, .int .i64 v.c.rw.left, .int .i64 v.c.rw.held, .slice v.x v.kv.length v.xc, .slice v.o v.c.ou.length v.oc, .slice v.p v.c.pg.length v.pc, .bool v.c.cl]] w fun e w' => e = .returned (.bool (lz v.c)) ∧ Below w.heap.size w w' := by
  refine aQ Tryz.func8 rfl Tryz.ntmps8 J J ?_
  have hzk := hz.ks
  have hzo := hz.ou
  have hzp := hz.pg
  have hl := hN.lenk
  obtain ⟨bn, hbn⟩ : ∃ b, qu v.c = b := ⟨_, rfl⟩
  by_cases hn : bn = false ∨ v.c.pg.length > 16
  · have hnb : (!bn || decide ((v.c.pg.length : Int) > 16)) = true := by
      rcases hn with h | h
      · rw [h]; rfl
      · rw [show decide ((v.c.pg.length : Int) > 16) = true from decide_eq_true (by omega)]; simp
    have h1 : Dq v.c = true := by unfold Dq; rw [hbn, hnb]; rfl
    repeat' (first | refine ai ?_ | refine aa ?_ | refine ab ?_ | refine ag ?_ | (refine aV J J J J J J ?_; intro g1) | ((refine' am rfl ?_ J J ?_); rotate_left; first | exact ak af J J J J | exact aq af J J J J J J | exact bL J J J J J | exact ae af 0 J J J J J | exact bh af J J J J J J J) | refine aK rfl (av J J J J ⟨J, trivial⟩ rfl (by kernel_rfl)) (fun w hm => Cf v bn hbn w) J J ?_ | ((refine' am rfl ?_ J J ?_); rotate_left; exact BG rfl hnb) | ((refine' am rfl ?_ J J ?_); rotate_left; exact vS (.map none) hnb))
    refine aB rfl (by rw [hnb]; rfl) ?_
    repeat' (first | refine ai ?_ | refine aa ?_ | refine ab ?_ | refine aA ?_ | refine au ?_ | refine ag ?_ | ((refine' am rfl ?_ J J ?_); rotate_left; exact ak af J J J J))
    refine aC af (fun _ => 0) J J trivial rfl fun w hm => ⟨?_, hm.below⟩
    unfold lz; rw [h1]; rfl
  have hbt : bn = true := by cases bn with | true => rfl | false => exact absurd (.inl rfl) hn
  subst hbt
  have hpl : v.c.pg.length ≤ 16 := by omega
  have hpd : decide ((v.c.pg.length : Int) > 16) = false := decide_eq_false (by omega)
  repeat' (first | refine ai ?_ | refine aa ?_ | refine ab ?_ | refine ag ?_ | (refine aV J J J J J J ?_; intro g1) | ((refine' am rfl ?_ J J ?_); rotate_left; first | exact ak af J J J J | exact aq af J J J J J J | exact bL J J J J J | exact ae af 0 J J J J J | exact bh af J J J J J J J) | refine aK rfl (av J J J J ⟨J, trivial⟩ rfl (by kernel_rfl)) (fun w hm => Cf v true hbn w) J J ?_)
  refine mJ (σ := Nat × Array MapEntry × Nat) (fun s => s.2.1.size = pj v.c.ks) (fun s => .map (some s.1)) (fun s => [.obj s.1 (.map s.2.1 s.2.2)]) rfl (by simp [aF]; omega) (av J J J J ⟨J, trivial⟩ rfl (by kernel_rfl)) (fun w1 hm => lZ v w1 (hN.below hm.below) (by omega)) J J ?_
  rintro ⟨gm, es, ck⟩ hes
  dsimp only at hes
  dsimp only [List.cons_append, List.nil_append]
  repeat' (first | refine ab ?_ | refine ag ?_ | ((refine' am rfl ?_ J J ?_); rotate_left; first | exact nE 0 J J J J Tryz.underlying75 | exact aq af J J J J J J | exact bL J J J J J))
  cases h1 : Dq v.c with
  | true =>
    refine aB rfl (by have h2 := h1; unfold Dq at h2; rw [hbn] at h2; rw [hes]; exact h2) ?_
    repeat' (first | refine ai ?_ | refine aa ?_ | refine ab ?_ | refine aA ?_ | refine au ?_ | refine ag ?_ | ((refine' am rfl ?_ J J ?_); rotate_left; exact ak af J J J J))
    refine aC af (fun _ => 0) J J trivial rfl fun w hm => ⟨?_, hm.below⟩
    unfold lz; rw [h1]; rfl
  | false =>
  refine ar rfl (by have h2 := h1; unfold Dq at h2; rw [hbn] at h2; rw [hes]; exact h2) ?_
  have hv1 : lz v.c = if rgtGo v.c none v.c.ks then (if tV v.c.pg then (if rR v.c.ou then (if BH v.c then false else decide (be v.c.ks ≤ v.c.rw.held)) else false) else false) else false := by unfold lz; rw [h1]; rfl
  repeat' (first | refine ai ?_ | refine aa ?_ | refine ab ?_ | refine ay ?_ | refine aJ ?_ | refine ag ?_ | ((refine' am rfl ?_ J J ?_); rotate_left; first | exact ak af J J J J | exact ae af 1 J J J J J | exact bh af J J J J J J J))
  refine cK (σ := Nat) (fun p => p ≤ v.kv.length ∧ rgtGo v.c none v.c.ks = rgtGo v.c (match p with | 0 => none | i + 1 => (v.kv[i]?).map (fun x => x.k.st.id)) (v.c.ks.drop p)) (fun p => [(27, [], .int .i64 ((p : Nat) : Int)), (26, [], .int .i64 ((v.kv.length : Nat) : Int)), (25, [], .slice v.x v.kv.length v.xc), (1, [], .pointer (some ⟨g1, 0, none⟩))]) (fun _ => [.cl g1 28 [.int .i64 v.c.sd, .int .i64 v.c.nx, .int .i64 v.c.la, .int .i64 v.c.aw, .int .i64 v.c.sz, .int .i64 v.c.sw.size, .int .i64 v.c.sw.left, .int .i64 v.c.sw.held, .int .i64 v.c.rw.size, .int .i64 v.c.rw.left, .int .i64 v.c.rw.held, .slice v.x v.kv.length v.xc, .slice v.o v.c.ou.length v.oc, .slice v.p v.c.pg.length v.pc, .bool v.c.cl]]) (fun p => v.kv.length - p) 0 [false, true] ⟨Nat.zero_le _, rfl⟩ ⟨J, J, J, J, trivial⟩ rfl ?_
  rintro j ⟨hj0, hr⟩
  by_cases hj : j < v.kv.length
  · obtain ⟨u, hu⟩ : ∃ u, v.kv[j]? = some u := ⟨_, List.getElem?_eq_getElem hj⟩
    have hum := List.mem_of_getElem? hu
    obtain ⟨bb, off, hx, _, _, hrows⟩ := hN.ks (by omega)
    have hrow : w.rangeAt bb (off + j * 22) (KC u) := hrows j u hu
    have hqj : v.c.ks[j]? = some u.k := by rw [hN.eq, List.getElem?_map, hu]; rfl
    obtain ⟨vb, hvb⟩ : ∃ b, callOk v.c u.k = b := ⟨_, rfl⟩
    rw [eJ hqj] at hr
    repeat' (first | refine ai ?_ | refine aa ?_ | refine ab ?_ | refine ag ?_ | ((refine' am rfl ?_ J J ?_); rotate_left; exact aq af J J J J J J))
    refine aB rfl (by simp; omega) ?_
    repeat' (first | refine ai ?_ | refine aa ?_ | refine ab ?_ | refine ay ?_ | refine aJ ?_ | refine ag ?_ | (refine aG af J J J J J J ?_; intro g4) | ((refine' am rfl ?_ J J ?_); rotate_left; first | exact nu af (m := 22) j rfl hx J J J J J J J (fun _ => rfl) (fun _ => hj) | exact dC af (cs := KC u) J J J J J (fun _ => hrow) | exact ak af J J J J) | refine aj af 0 J J J J J J J J J J J J ?_)
    have hv0 : rgtGo v.c none v.c.ks = false → lz v.c = false := fun h => by rw [hv1, h]; rfl
    cases j with
    | zero =>
      dsimp only at hr
      repeat' (first | refine ab ?_ | refine aU aD rfl (by kernel_rfl) ?_ | refine ag ?_ | refine bH ?_ | ((refine' dg rfl ?_ J J J ?_); rotate_left; first | exact ak af J J J J | exact aq af J J J J J J | exact bL J J J J J | exact bK J J J J J | exact ae af 0 J J J J J | exact ae af 1 J J J J J) | refine br rfl (av J J J J ⟨J, J, trivial⟩ rfl (by kernel_rfl)) rfl (fun w hm => Cg v u vb hvb w ((hN.ok u hum).below hm.below) (hzv.ub u hum) (hz.ok u hum) (hgd.tx u hum) (hgd.fr u hum) (hg.below hm.below) (hzv.hd u hum)) J J ?_ | ((refine' dg rfl ?_ J J J ?_); rotate_left; exact Bh (.pointer (some ⟨g1, 1, none⟩)) rfl))
      cases hb : (!callOk v.c u.k || decide (u.k.st.id > v.c.la) || (match (none : Option Int) with | none => false | some x => decide (u.k.st.id ≤ x))) with
      | true =>
        rw [tU hb] at hr
        refine aB rfl (by rw [← hb, hvb]; first | rfl | (rw [hpos]; rfl)) ?_
        repeat' (first | refine ai ?_ | refine aa ?_ | refine ab ?_ | refine aA ?_ | refine au ?_ | refine ba ?_ | refine ag ?_ | ((refine' am rfl ?_ J J ?_); rotate_left; exact ak af J J J J))
        refine aC af (fun _ => 0) J J trivial rfl fun w hm => ⟨?_, hm.below⟩
        rw [hv0 hr]
      | false =>
        rw [qQ hb] at hr
        refine ar rfl (by rw [← hb, hvb]; first | rfl | (rw [hpos]; rfl)) ?_
        repeat' (first | refine aa ?_ | refine ab ?_ | refine ay ?_ | refine ax ?_ | refine ag ?_ | ((refine' am rfl ?_ J J ?_); rotate_left; first | exact bN J J J J J (by omega) | exact ak af J J J J))
        refine bA 1 [false, true] ⟨hj, by dsimp only; rw [hr, hu]; rfl⟩ (show v.kv.length - 1 < v.kv.length - 0 by omega) ⟨J, J, J, J, trivial⟩ rfl
    | succ i =>
      have hi1 : i < v.kv.length := by omega
      have hsub := Bi i (by omega)
      have hpos : decide (((i + 1 : Nat) : Int) > 0) = true := decide_eq_true (by omega)
      obtain ⟨u0, hu0⟩ : ∃ u, v.kv[i]? = some u := ⟨_, List.getElem?_eq_getElem hi1⟩
      have hrow0 : w.rangeAt bb (off + i * 22) (KC u0) := hrows i u0 hu0
      dsimp only at hr
      rw [hu0] at hr
      dsimp only [Option.map] at hr
      repeat' (first | refine ab ?_ | refine aU aD rfl (by kernel_rfl) ?_ | refine ag ?_ | refine bH ?_ | ((refine' dg rfl ?_ J J J ?_); rotate_left; first | exact nu af (m := 22) i rfl hx J J J J J J J (fun _ => hsub) (fun _ => hi1) | exact eH af (v := .int .i64 u0.k.st.id) J J J J J (fun _ => hrow0 0 _ rfl) | exact ak af J J J J | exact aq af J J J J J J | exact bL J J J J J | exact bK J J J J J | exact ae af 0 J J J J J | exact ae af 1 J J J J J) | refine br rfl (av J J J J ⟨J, J, trivial⟩ rfl (by kernel_rfl)) rfl (fun w hm => Cg v u vb hvb w ((hN.ok u hum).below hm.below) (hzv.ub u hum) (hz.ok u hum) (hgd.tx u hum) (hgd.fr u hum) (hg.below hm.below) (hzv.hd u hum)) J J ?_)
      cases hb : (!callOk v.c u.k || decide (u.k.st.id > v.c.la) || (match (some u0.k.st.id : Option Int) with | none => false | some x => decide (u.k.st.id ≤ x))) with
      | true =>
        rw [tU hb] at hr
        refine aB rfl (by rw [← hb, hvb]; first | rfl | (rw [hpos]; rfl)) ?_
        repeat' (first | refine ai ?_ | refine aa ?_ | refine ab ?_ | refine aA ?_ | refine au ?_ | refine ba ?_ | refine ag ?_ | ((refine' am rfl ?_ J J ?_); rotate_left; exact ak af J J J J))
        refine aC af (fun _ => 0) J J trivial rfl fun w hm => ⟨?_, hm.below⟩
        rw [hv0 hr]
      | false =>
        rw [qQ hb] at hr
        refine ar rfl (by rw [← hb, hvb]; first | rfl | (rw [hpos]; rfl)) ?_
        repeat' (first | refine aa ?_ | refine ab ?_ | refine ay ?_ | refine ax ?_ | refine ag ?_ | ((refine' am rfl ?_ J J ?_); rotate_left; first | exact bN J J J J J (by omega) | exact ak af J J J J))
        refine bA (i + 1 + 1) [false, true] ⟨hj, by dsimp only; rw [hr, hu]; rfl⟩ (show v.kv.length - (i + 1 + 1) < v.kv.length - (i + 1) by omega) ⟨J, J, J, J, trivial⟩ rfl
  rw [List.drop_eq_nil_of_le (by omega), xD] at hr
  rw [hr, if_pos rfl] at hv1
  repeat' (first | refine ai ?_ | refine aa ?_ | refine ab ?_ | refine ag ?_ | ((refine' am rfl ?_ J J ?_); rotate_left; exact aq af J J J J J J))
  refine ar rfl (by simp; omega) ?_
  repeat' (first | refine ai ?_ | refine aa ?_ | refine ab ?_ | refine aJ ?_ | refine bq ?_ | refine aN ?_ | refine aT ?_ | refine ag ?_ | ((refine' am rfl ?_ J J ?_); rotate_left; first | exact ak af J J J J | exact ae af 0 J J J J J | exact bh af J J J J J J J))
  refine cK (σ := Nat) (fun p => p ≤ v.c.pg.length ∧ tV v.c.pg = tV (v.c.pg.drop p)) (fun p => [(66, [], .int .i64 ((p : Nat) : Int)), (65, [], .int .i64 ((v.c.pg.length : Nat) : Int)), (64, [], .slice v.p v.c.pg.length v.pc), (1, [], .pointer (some ⟨g1, 0, none⟩))]) (fun _ => [.cl g1 28 [.int .i64 v.c.sd, .int .i64 v.c.nx, .int .i64 v.c.la, .int .i64 v.c.aw, .int .i64 v.c.sz, .int .i64 v.c.sw.size, .int .i64 v.c.sw.left, .int .i64 v.c.sw.held, .int .i64 v.c.rw.size, .int .i64 v.c.rw.left, .int .i64 v.c.rw.held, .slice v.x v.kv.length v.xc, .slice v.o v.c.ou.length v.oc, .slice v.p v.c.pg.length v.pc, .bool v.c.cl]]) (fun p => v.c.pg.length - p) 0 [true] ⟨Nat.zero_le _, rfl⟩ ⟨J, J, J, J, trivial⟩ rfl ?_
  clear hr hj0 hj
  rintro j ⟨hj0, hp⟩
  by_cases hj : j < v.c.pg.length
  · obtain ⟨n, hs⟩ : ∃ n, v.c.pg[j]? = some n := ⟨_, List.getElem?_eq_getElem hj⟩
    obtain ⟨bb, off, hx, _, _, hrows⟩ := hN.pg (by omega)
    have hrow : w.rangeAt bb (off + j * 1) (iC n) := hrows j n hs
    rw [eJ hs, xE] at hp
    repeat' (first | refine ai ?_ | refine aa ?_ | refine ab ?_ | refine ag ?_ | ((refine' am rfl ?_ J J ?_); rotate_left; exact aq af J J J J J J))
    refine aB rfl (by simp; omega) ?_
    repeat' (first | refine ai ?_ | refine aa ?_ | refine ab ?_ | refine ay ?_ | refine aJ ?_ | refine ag ?_ | ((refine' am rfl ?_ J J ?_); rotate_left; first | exact nu af (m := 1) j rfl hx J J J J J J J (fun _ => rfl) (fun _ => hj) | exact eH af (v := .int .i64 n) J J J J J (fun _ => hrow 0 _ rfl) | exact ak af J J J J | exact aq af J J J J J J | exact bL J J J J J))
    cases hb : (decide (n < 0) || decide (n > 4294967295)) with
    | true =>
      rw [hb] at hp
      refine aB J J ?_
      repeat' (first | refine ai ?_ | refine aa ?_ | refine ab ?_ | refine aA ?_ | refine au ?_ | refine ba ?_ | refine ag ?_ | ((refine' am rfl ?_ J J ?_); rotate_left; exact ak af J J J J))
      refine aC af (fun _ => 0) J J trivial rfl fun w hm => ⟨?_, hm.below⟩
      rw [hv1, show tV v.c.pg = false from hp]
      rfl
    | false =>
      rw [hb, Bool.not_false, Bool.true_and] at hp
      refine ar J J ?_
      repeat' (first | refine aa ?_ | refine ab ?_ | refine ay ?_ | refine ax ?_ | refine ag ?_ | ((refine' am rfl ?_ J J ?_); rotate_left; first | exact bN J J J J J (by omega) | exact ak af J J J J))
      refine bA (j + 1) [true] ⟨hj, hp⟩ (show v.c.pg.length - (j + 1) < v.c.pg.length - j by omega) ⟨J, J, J, J, trivial⟩ rfl
  rw [List.drop_eq_nil_of_le (by omega)] at hp
  rw [show tV v.c.pg = true from hp, if_pos rfl] at hv1
  repeat' (first | refine ai ?_ | refine aa ?_ | refine ab ?_ | refine ag ?_ | ((refine' am rfl ?_ J J ?_); rotate_left; exact aq af J J J J J J))
  refine ar rfl (by simp; omega) ?_
  repeat' (first | refine ai ?_ | refine aa ?_ | refine ab ?_ | refine aJ ?_ | refine bq ?_ | refine aN ?_ | refine aT ?_ | refine ag ?_ | ((refine' am rfl ?_ J J ?_); rotate_left; first | exact ak af J J J J | exact ae af 0 J J J J J | exact bh af J J J J J J J))
  refine cK (σ := Nat) (fun p => p ≤ v.c.ou.length ∧ rR v.c.ou = rR (v.c.ou.drop p)) (fun p => [(80, [], .int .i64 ((p : Nat) : Int)), (79, [], .int .i64 ((v.c.ou.length : Nat) : Int)), (78, [], .slice v.o v.c.ou.length v.oc), (1, [], .pointer (some ⟨g1, 0, none⟩))]) (fun _ => [.cl g1 28 [.int .i64 v.c.sd, .int .i64 v.c.nx, .int .i64 v.c.la, .int .i64 v.c.aw, .int .i64 v.c.sz, .int .i64 v.c.sw.size, .int .i64 v.c.sw.left, .int .i64 v.c.sw.held, .int .i64 v.c.rw.size, .int .i64 v.c.rw.left, .int .i64 v.c.rw.held, .slice v.x v.kv.length v.xc, .slice v.o v.c.ou.length v.oc, .slice v.p v.c.pg.length v.pc, .bool v.c.cl]]) (fun p => v.c.ou.length - p) 0 [true] ⟨Nat.zero_le _, rfl⟩ ⟨J, J, J, J, trivial⟩ rfl ?_
  clear hp hj0 hj
  rintro j ⟨hj0, hp⟩
  by_cases hj : j < v.c.ou.length
  · obtain ⟨f, hs⟩ : ∃ f, v.c.ou[j]? = some f := ⟨_, List.getElem?_eq_getElem hj⟩
    obtain ⟨bb, off, hx, _, _, hrows⟩ := hN.ou (by omega)
    have hrow : w.rangeAt bb (off + j * 4) (fC f) := hrows j f hs
    have hfd := hzv.of f (List.mem_of_getElem? hs)
    obtain ⟨ef, hef⟩ : ∃ x, aR f = x := ⟨_, rfl⟩
    rw [eJ hs, xF, hef] at hp
    repeat' (first | refine ai ?_ | refine aa ?_ | refine ab ?_ | refine ag ?_ | ((refine' am rfl ?_ J J ?_); rotate_left; exact aq af J J J J J J))
    refine aB rfl (by simp; omega) ?_
    repeat' (first | refine ai ?_ | refine aa ?_ | refine ab ?_ | refine ay ?_ | refine aJ ?_ | refine ag ?_ | (refine aG af J J J J J J ?_; intro g8) | ((refine' am rfl ?_ J J ?_); rotate_left; first | exact nu af (m := 4) j rfl hx J J J J J J J (fun _ => rfl) (fun _ => hj) | exact dC af (cs := fC f) J J J J J (fun _ => hrow) | exact aq af J J J J J J | exact ae af 0 J J J J J) | refine aK rfl (av J J J J ⟨J, trivial⟩ rfl (by kernel_rfl)) (fun w hm => zB f ef hef w (hg.below hm.below) hfd) J J ?_ | refine aj af 0 J J J J J J J J J J J J ?_)
    by_cases he : ef = 0
    · rw [decide_eq_true he, Bool.true_and] at hp
      refine ar rfl (by simpa using he) ?_
      repeat' (first | refine aa ?_ | refine ab ?_ | refine ay ?_ | refine ax ?_ | refine ag ?_ | ((refine' am rfl ?_ J J ?_); rotate_left; first | exact bN J J J J J (by omega) | exact ak af J J J J))
      refine bA (j + 1) [false, true] ⟨hj, hp⟩ (show v.c.ou.length - (j + 1) < v.c.ou.length - j by omega) ⟨J, J, J, J, trivial⟩ rfl
    · rw [decide_eq_false he, Bool.false_and] at hp
      refine aB rfl (by simpa using he) ?_
      repeat' (first | refine ai ?_ | refine aa ?_ | refine ab ?_ | refine aA ?_ | refine au ?_ | refine ba ?_ | refine ag ?_ | ((refine' am rfl ?_ J J ?_); rotate_left; exact ak af J J J J))
      refine aC af (fun _ => 0) J J trivial rfl fun w hm => ⟨?_, hm.below⟩
      rw [hv1, show rR v.c.ou = false from hp]
      rfl
  rw [List.drop_eq_nil_of_le (by omega)] at hp
  rw [show rR v.c.ou = true from hp, if_pos rfl] at hv1
  repeat' (first | refine ai ?_ | refine aa ?_ | refine ab ?_ | refine ag ?_ | ((refine' am rfl ?_ J J ?_); rotate_left; exact aq af J J J J J J))
  refine ar rfl (by simp; omega) ?_
  obtain ⟨n, hn9⟩ : ∃ n, be v.c.ks = n := ⟨_, rfl⟩
  rw [hn9] at hv1
  by_cases hcl : v.c.cl = false
  · have h2 : BH v.c = false := by unfold BH; rw [hcl]; rfl
    rw [h2] at hv1
    repeat' (first | refine ai ?_ | refine aa ?_ | refine ab ?_ | refine bq ?_ | refine aN ?_ | refine aT ?_ | refine ag ?_ | ((refine' am rfl ?_ J J ?_); rotate_left; first | exact ak af J J J J | exact aq af J J J J J J | exact bL J J J J J | exact bK J J J J J | exact ae af 0 J J J J J | exact bh af J J J J J J J) | ((refine' am rfl ?_ J J ?_); rotate_left; exact wt rfl (tS hcl)) | ((refine' am rfl ?_ J J ?_); rotate_left; exact jr (.map none) (tS hcl)))
    refine ar rfl (by rw [hcl]; rfl) ?_
    repeat' (first | refine ai ?_ | refine ab ?_ | refine aA ?_ | refine ay ?_ | refine aU aD rfl (by kernel_rfl) ?_ | refine ag ?_ | refine bH ?_ | ((refine' dg rfl ?_ J J J ?_); rotate_left; first | exact ak af J J J J | exact aq af J J J J J J | exact ae af 0 J J J J J) | refine br rfl (av J J J J ⟨J, trivial⟩ rfl (by kernel_rfl)) rfl (fun w hm => pr v n hn9 w (hN.below hm.below) (by omega) hzv.tb (fun u hu => (hz.ok u hu).2.1)) J J ?_)
    refine aC af (fun _ => 0) J J trivial rfl fun w hm => ⟨?_, hm.below⟩
    rw [hv1]; rfl
  have hclt : v.c.cl = true := by cases h : v.c.cl with | true => rfl | false => exact absurd h hcl
  by_cases ho : v.c.ou.length > 0
  · have hod : decide ((v.c.ou.length : Int) > 0) = true := decide_eq_true (by omega)
    have h2 : BH v.c = true := by unfold BH; rw [hclt, hod]; rfl
    rw [h2] at hv1
    repeat' (first | refine ai ?_ | refine aa ?_ | refine ab ?_ | refine bq ?_ | refine aN ?_ | refine aT ?_ | refine ag ?_ | ((refine' am rfl ?_ J J ?_); rotate_left; first | exact ak af J J J J | exact aq af J J J J J J | exact bL J J J J J | exact bK J J J J J | exact ae af 0 J J J J J | exact bh af J J J J J J J) | ((refine' am rfl ?_ J J ?_); rotate_left; exact wt rfl (tT hod)) | ((refine' am rfl ?_ J J ?_); rotate_left; exact jr (.map none) (tT hod)))
    refine aB rfl (by rw [hclt, hod]; rfl) ?_
    repeat' (first | refine ai ?_ | refine aa ?_ | refine ab ?_ | refine aA ?_ | refine au ?_ | refine ag ?_ | ((refine' am rfl ?_ J J ?_); rotate_left; exact ak af J J J J))
    refine aC af (fun _ => 0) J J trivial rfl fun w hm => ⟨?_, hm.below⟩
    rw [hv1]; rfl
  have hod : decide ((v.c.ou.length : Int) > 0) = false := decide_eq_false (by omega)
  repeat' (first | refine ai ?_ | refine aa ?_ | refine ab ?_ | refine bq ?_ | refine aN ?_ | refine aT ?_ | ((refine' am rfl ?_ J J ?_); rotate_left; first | exact ak af J J J J | exact aq af J J J J J J | exact ae af 0 J J J J J | exact bh af J J J J J J J))
  refine mJ (σ := Nat × Array MapEntry × Nat) (fun s => s.2.1.size = pj v.c.ks) (fun s => .map (some s.1)) (fun s => [.obj s.1 (.map s.2.1 s.2.2)]) rfl (by unfold aF; rw [hod, hclt]; rfl) (av J J J J ⟨J, trivial⟩ rfl (by kernel_rfl)) (fun w1 hm => lZ v w1 (hN.below hm.below) (by omega)) J J ?_
  rintro ⟨gq, es2, ck2⟩ hes2
  dsimp only at hes2
  dsimp only [List.cons_append, List.nil_append]
  repeat' (first | refine ab ?_ | refine ag ?_ | ((refine' am rfl ?_ J J ?_); rotate_left; first | exact nE 0 J J J J Tryz.underlying75 | exact aq af J J J J J J | exact bL J J J J J | exact bK J J J J J))
  cases h2 : BH v.c with
  | true =>
    rw [h2] at hv1
    refine aB rfl (by have h3 := h2; unfold BH at h3; rw [hes2]; exact h3) ?_
    repeat' (first | refine ai ?_ | refine aa ?_ | refine ab ?_ | refine aA ?_ | refine au ?_ | refine ag ?_ | ((refine' am rfl ?_ J J ?_); rotate_left; exact ak af J J J J))
    refine aC af (fun _ => 0) J J trivial rfl fun w hm => ⟨?_, hm.below⟩
    rw [hv1]; rfl
  | false =>
    rw [h2] at hv1
    refine ar rfl (by have h3 := h2; unfold BH at h3; rw [hes2]; exact h3) ?_
    repeat' (first | refine ai ?_ | refine ab ?_ | refine aA ?_ | refine ay ?_ | refine aU aD rfl (by kernel_rfl) ?_ | refine ag ?_ | refine bH ?_ | ((refine' dg rfl ?_ J J J ?_); rotate_left; first | exact ak af J J J J | exact aq af J J J J J J | exact ae af 1 J J J J J) | refine br rfl (av J J J J ⟨J, trivial⟩ rfl (by kernel_rfl)) rfl (fun w hm => pr v n hn9 w (hN.below hm.below) (by omega) hzv.tb (fun u hu => (hz.ok u hu).2.1)) J J ?_)
    refine aC af (fun _ => 0) J J trivial rfl fun w hm => ⟨?_, hm.below⟩
    rw [hv1]; rfl
end Go.Proofs.YthiocbcokfondaaGreatDoor.Y
