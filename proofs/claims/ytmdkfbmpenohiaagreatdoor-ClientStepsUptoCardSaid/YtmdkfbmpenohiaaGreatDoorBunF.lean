/- Texts of this claim merged into one: F1, F2, F3, F4. -/
import Derived.Test.YtmdkfbmpenohiaaGreatDoorBunCA
import Derived.Test.YtmdkfbmpenohiaaGreatDoorRegD
namespace Go.Proofs.YtmdkfbmpenohiaaGreatDoor.Y
open Go.RowKit
set_option maxRecDepth 100000 in
set_option maxHeartbeats 8000000 in
theorem mU {A A' : Nat → Prop} (x x' : Option Addr) (c c' : Nat) (l : List (ByteArray)) (w : World) (hR : Rws A w 1 sC x l) (hR' : Rws A' w 1 sC x' l) (hlen : l.length ≤ 9000000000000000000) : Calls Tryz.prog 45 #[.slice x l.length c, .slice x' l.length c'] w fun e w' => e = .returned (.bool true) ∧ Below w.heap.size w w' := by
  refine aD Tryz.func45 rfl Tryz.ntmps45 J J ?_
  repeat' (first | refine ag ?_ | refine aa ?_ | refine ab ?_ | refine ae ?_ | ((refine' ak rfl ?_ J J ?_); rotate_left; first | exact ai af J J J J | exact aq af J J J J J J | exact aO af J J J J J J J))
  refine am rfl (by simp) ?_
  repeat' (first | refine ag ?_ | refine aa ?_ | refine ab ?_ | refine au ?_ | refine aE ?_ | refine ae ?_ | ((refine' ak rfl ?_ J J ?_); rotate_left; exact ai af J J J J))
  refine bF (σ := Nat) (fun p => p ≤ l.length) (fun p => [(5, [], .int .i64 ((p : Nat) : Int)), (0, [], .slice x l.length c), (1, [], .slice x' l.length c')]) (fun _ => []) (fun p => l.length - p) 0 [] (Nat.zero_le _) ⟨J, J, J, trivial⟩ rfl ?_
  intro j hj0
  by_cases hj : j < l.length
  · skip
    obtain ⟨s, hs⟩ : ∃ s, l[j]? = some s := ⟨l[j], List.getElem?_eq_getElem hj⟩
    obtain ⟨bb, off, hx, _, _, hrows⟩ := hR (by omega)
    obtain ⟨bb', off', hx', _, _, hrows'⟩ := hR' (by omega)
    have hrow : w.rangeAt bb (off + j * 1) (sC s) := hrows j s hs
    have hrow' : w.rangeAt bb' (off' + j * 1) (sC s) := hrows' j s hs
    subst hx hx'
    repeat' (first | refine ag ?_ | refine aa ?_ | refine ab ?_ | refine ae ?_ | ((refine' ak rfl ?_ J J ?_); rotate_left; first | exact ai af J J J J | exact aq af J J J J J J | exact aO af J J J J J J J))
    refine aw rfl (by simp; omega) ?_
    repeat' (first | refine ag ?_ | refine ab ?_ | refine au ?_ | refine aE ?_ | refine aY aK rfl (by kernel_rfl) ?_ | refine ae ?_ | refine bz ?_ | ((refine' dm rfl ?_ J J J ?_); rotate_left; first | exact bA af (m := 1) j J J J J J J J J (fun _ => rfl) (fun _ => hj) | exact bT af (v := .string s) J J J J J (fun _ => hrow 0 _ rfl) | exact bT af (v := .string s) J J J J J (fun _ => hrow' 0 _ rfl) | exact ai af J J J J | exact aq af J J J J J J))
    refine am rfl (by simp) ?_
    repeat' (first | refine aa ?_ | refine ab ?_ | refine au ?_ | refine ax ?_ | refine ae ?_ | ((refine' ak rfl ?_ J J ?_); rotate_left; first | exact a6 J J J J J (by omega) | exact ai af J J J J))
    refine aR (j + 1) [] hj (show l.length - (j + 1) < l.length - j by omega) ⟨J, J, J, trivial⟩ rfl
  · skip
    repeat' (first | refine ag ?_ | refine aa ?_ | refine ab ?_ | refine ae ?_ | ((refine' ak rfl ?_ J J ?_); rotate_left; first | exact ai af J J J J | exact aq af J J J J J J | exact aO af J J J J J J J))
    refine am rfl (by simp; omega) ?_
    repeat' (first | refine ag ?_ | refine aa ?_ | refine ab ?_ | refine aA ?_ | refine a8 ?_ | refine aH ?_ | refine aN ?_ | refine ae ?_ | ((refine' ak rfl ?_ J J ?_); rotate_left; exact ai af J J J J))
    refine aB af (fun _ => 0) J J trivial rfl fun w hm => ⟨?_, hm.below⟩
    rfl
set_option maxRecDepth 100000 in
set_option maxHeartbeats 8000000 in
theorem lL {A A' : Nat → Prop} (x x' : Option Addr) (c c' : Nat) (l : List (Int)) (w : World) (hR : Rws A w 1 iC x l) (hR' : Rws A' w 1 iC x' l) (hlen : l.length ≤ 9000000000000000000) : Calls Tryz.prog 13 #[.slice x l.length c, .slice x' l.length c'] w fun e w' => e = .returned (.bool true) ∧ Below w.heap.size w w' := by
  refine aD Tryz.func13 rfl Tryz.ntmps13 J J ?_
  repeat' (first | refine ag ?_ | refine aa ?_ | refine ab ?_ | refine ae ?_ | ((refine' ak rfl ?_ J J ?_); rotate_left; first | exact ai af J J J J | exact aq af J J J J J J | exact aO af J J J J J J J))
  refine am rfl (by simp) ?_
  repeat' (first | refine ag ?_ | refine aa ?_ | refine ab ?_ | refine au ?_ | refine aE ?_ | refine ae ?_ | ((refine' ak rfl ?_ J J ?_); rotate_left; first | exact ai af J J J J | exact aO af J J J J J J J))
  refine bF (σ := Nat) (fun p => p ≤ l.length) (fun p => [(13, [], .int .i64 ((p : Nat) : Int)), (12, [], .int .i64 ((l.length : Nat) : Int)), (0, [], .slice x l.length c), (1, [], .slice x' l.length c')]) (fun _ => []) (fun p => l.length - p) 0 [] (Nat.zero_le _) ⟨J, J, J, J, trivial⟩ rfl ?_
  intro j hj0
  by_cases hj : j < l.length
  · skip
    obtain ⟨s, hs⟩ : ∃ s, l[j]? = some s := ⟨l[j], List.getElem?_eq_getElem hj⟩
    obtain ⟨bb, off, hx, _, _, hrows⟩ := hR (by omega)
    obtain ⟨bb', off', hx', _, _, hrows'⟩ := hR' (by omega)
    have hrow : w.rangeAt bb (off + j * 1) (iC s) := hrows j s hs
    have hrow' : w.rangeAt bb' (off' + j * 1) (iC s) := hrows' j s hs
    subst hx hx'
    repeat' (first | refine ag ?_ | refine aa ?_ | refine ab ?_ | refine ae ?_ | ((refine' ak rfl ?_ J J ?_); rotate_left; exact aq af J J J J J J))
    refine aw rfl (by simp; omega) ?_
    repeat' (first | refine ag ?_ | refine aa ?_ | refine ab ?_ | refine au ?_ | refine aE ?_ | refine aY aK rfl (by kernel_rfl) ?_ | refine ae ?_ | refine bz ?_ | ((first | refine' ak rfl ?_ J J ?_ | refine' dm rfl ?_ J J J ?_); rotate_left; first | exact bA af (m := 1) j J J J J J J J J (fun _ => rfl) (fun _ => hj) | exact bT af (v := .int .i64 s) J J J J J (fun _ => hrow 0 _ rfl) | exact bT af (v := .int .i64 s) J J J J J (fun _ => hrow' 0 _ rfl) | exact ai af J J J J | exact aq af J J J J J J))
    refine am rfl (by simp) ?_
    repeat' (first | refine aa ?_ | refine ab ?_ | refine au ?_ | refine ax ?_ | refine ae ?_ | ((refine' ak rfl ?_ J J ?_); rotate_left; first | exact a6 J J J J J (by omega) | exact ai af J J J J))
    refine aR (j + 1) [] hj (show l.length - (j + 1) < l.length - j by omega) ⟨J, J, J, J, trivial⟩ rfl
  · skip
    repeat' (first | refine ag ?_ | refine aa ?_ | refine ab ?_ | refine ae ?_ | ((refine' ak rfl ?_ J J ?_); rotate_left; exact aq af J J J J J J))
    refine am rfl (by simp; omega) ?_
    repeat' (first | refine ag ?_ | refine aa ?_ | refine ab ?_ | refine aA ?_ | refine a8 ?_ | refine aH ?_ | refine aN ?_ | refine ae ?_ | ((refine' ak rfl ?_ J J ?_); rotate_left; exact ai af J J J J))
    refine aB af (fun _ => 0) J J trivial rfl fun w hm => ⟨?_, hm.below⟩
    rfl
set_option maxRecDepth 100000 in
set_option maxHeartbeats 8000000 in
theorem ql {A A' : Nat → Prop} (q : QR) (x x' : Option Addr) (c c' : Nat) (w : World) (hR : Rws A w 2 mC x q.ms) (hR' : Rws A' w 2 mC x' q.ms) (hlen : q.ms.length ≤ 9000000000000000000) : Calls Tryz.prog 44 #[.agg #[.string q.sv, .string q.mt, .int .i64 q.late, .slice x q.ms.length c], .agg #[.string q.sv, .string q.mt, .int .i64 q.late, .slice x' q.ms.length c']] w fun e w' => e = .returned (.bool true) ∧ Below w.heap.size w w' := by
  refine aD Tryz.func44 rfl Tryz.ntmps44 J J ?_
  refine ag ?_
  refine aa ?_
  (refine aT J J J J J J ?_; intro g2)
  (refine aT J J J J J J ?_; intro g3)
  repeat' (first | refine ag ?_ | refine aa ?_ | refine ab ?_ | refine ae ?_ | ((refine' ak rfl ?_ J J ?_); rotate_left; first | exact ai af J J J J | exact aq af J J J J J J | exact bp J J J J J | exact ah af 0 J J J J J | exact ah af 1 J J J J J | exact aO af J J J J J J J))
  refine am rfl (by simp) ?_
  repeat' (first | refine ag ?_ | refine aa ?_ | refine ab ?_ | refine au ?_ | refine aE ?_ | refine ae ?_ | ((refine' ak rfl ?_ J J ?_); rotate_left; exact ai af J J J J))
  refine bF (σ := Nat) (fun p => p ≤ q.ms.length) (fun p => [(5, [], .int .i64 ((p : Nat) : Int)), (2, [], .pointer (some ⟨g2, 0, none⟩)), (3, [], .pointer (some ⟨g3, 0, none⟩))]) (fun _ => [.cl g3 45 [.string q.sv, .string q.mt, .int .i64 q.late, .slice x' q.ms.length c'], .cl g2 45 [.string q.sv, .string q.mt, .int .i64 q.late, .slice x q.ms.length c]]) (fun p => q.ms.length - p) 0 [true, true] (Nat.zero_le _) ⟨J, J, J, trivial⟩ rfl ?_
  intro j hj0
  by_cases hj : j < q.ms.length
  · skip
    obtain ⟨s, hs⟩ : ∃ s, q.ms[j]? = some s := ⟨q.ms[j], List.getElem?_eq_getElem hj⟩
    obtain ⟨bb, off, hx, _, _, hrows⟩ := hR (by omega)
    obtain ⟨bb', off', hx', _, _, hrows'⟩ := hR' (by omega)
    have hrow : w.rangeAt bb (off + j * 2) (mC s) := hrows j s hs
    have hrow' : w.rangeAt bb' (off' + j * 2) (mC s) := hrows' j s hs
    subst hx hx'
    repeat' (first | refine ag ?_ | refine aa ?_ | refine ab ?_ | refine ae ?_ | ((refine' ak rfl ?_ J J ?_); rotate_left; first | exact ai af J J J J | exact aq af J J J J J J | exact ah af 1 J J J J J | exact aO af J J J J J J J))
    refine aw rfl (by simp; omega) ?_
    repeat' (first | refine ag ?_ | refine ab ?_ | refine au ?_ | refine aE ?_ | refine aY aK rfl (by kernel_rfl) ?_ | refine ae ?_ | refine bz ?_ | ((refine' dm rfl ?_ J J J ?_); rotate_left; first | exact bA af (m := 2) j J J J J J J J J (fun _ => rfl) (fun _ => hj) | exact a7 af (cs := mC s) J J J J J (fun _ => hrow) | exact a7 af (cs := mC s) J J J J J (fun _ => hrow') | exact ai af J J J J | exact ah af 0 J J J J J | exact ah af 1 J J J J J | exact ew af fm J J J J J J (by kernel_rfl)))
    refine am rfl (by simp) ?_
    repeat' (first | refine aa ?_ | refine ab ?_ | refine au ?_ | refine ax ?_ | refine ae ?_ | ((refine' ak rfl ?_ J J ?_); rotate_left; first | exact a6 J J J J J (by omega) | exact ai af J J J J))
    refine aR (j + 1) [true, true] hj (show q.ms.length - (j + 1) < q.ms.length - j by omega) ⟨J, J, J, trivial⟩ rfl
  · skip
    repeat' (first | refine ag ?_ | refine aa ?_ | refine ab ?_ | refine ae ?_ | ((refine' ak rfl ?_ J J ?_); rotate_left; first | exact ai af J J J J | exact aq af J J J J J J | exact ah af 1 J J J J J | exact aO af J J J J J J J))
    refine am rfl (by simp; omega) ?_
    repeat' (first | refine ag ?_ | refine aa ?_ | refine ab ?_ | refine aA ?_ | refine a8 ?_ | refine aH ?_ | refine aN ?_ | refine ae ?_ | ((refine' ak rfl ?_ J J ?_); rotate_left; exact ai af J J J J))
    refine aB af (fun _ => 0) J J trivial rfl fun w hm => ⟨?_, hm.below⟩
    rfl
def zL : Option Nat → Int
  | some k => k
  | none => -1
set_option maxRecDepth 100000 in
set_option maxHeartbeats 8000000 in
theorem qm {A : Nat → Prop} (v : CV) (id : Int) (w : World) (hC : COk A w v) (hzq : v.qv.length ≤ 703687441776) : Calls Tryz.prog 70 #[.agg #[.slice v.b v.c.bs.length v.bc, .int .i64 v.c.ra, .int .i64 v.c.rb, .int .i64 v.c.rc, .int .i64 v.c.rk, .int .i64 v.c.tk, .int .i64 v.c.mo, .int .i64 v.c.gn, .slice v.x v.qv.length v.xc, .int .i64 v.c.nx], .int .i64 id] w fun e w' => e = .returned (.int .i64 (zL (dh id v.c.qs 0))) ∧ Below w.heap.size w w' := by
  refine aD Tryz.func70 rfl Tryz.ntmps70 J J ?_
  have hl := hC.lenq
  repeat' (first | refine ag ?_ | refine aa ?_ | refine ab ?_ | refine aE ?_ | refine ae ?_ | (refine aT J J J J J J ?_; intro g2) | ((refine' ak rfl ?_ J J ?_); rotate_left; exact ai af J J J J))
  refine bF (σ := Nat) (fun p => p ≤ v.qv.length ∧ dh id v.c.qs 0 = dh id (v.c.qs.drop p) p) (fun p => [(5, [], .int .i64 ((p : Nat) : Int)), (2, [], .pointer (some ⟨g2, 0, none⟩)), (1, [], .int .i64 id)]) (fun _ => [.cl g2 32 [.slice v.b v.c.bs.length v.bc, .int .i64 v.c.ra, .int .i64 v.c.rb, .int .i64 v.c.rc, .int .i64 v.c.rk, .int .i64 v.c.tk, .int .i64 v.c.mo, .int .i64 v.c.gn, .slice v.x v.qv.length v.xc, .int .i64 v.c.nx]]) (fun p => v.qv.length - p) 0 [true] ⟨Nat.zero_le _, rfl⟩ ⟨J, J, J, trivial⟩ rfl ?_
  rintro j ⟨hj0, hr⟩
  by_cases hj : j < v.qv.length
  · skip
    obtain ⟨u, hu0⟩ : ∃ u, v.qv[j]? = some u := ⟨v.qv[j], List.getElem?_eq_getElem hj⟩
    obtain ⟨bb, off, hx, _, _, hrows⟩ := hC.qs (by omega)
    have hrow : w.rangeAt bb (off + j * 15) (QC u) := hrows j u hu0
    have hq : v.c.qs[j]? = some u.q := by rw [hC.eq, List.getElem?_map, hu0]; rfl
    rw [cn hq, dh] at hr
    rw [hx]
    repeat' (first | refine ag ?_ | refine aa ?_ | refine ab ?_ | refine ae ?_ | ((refine' ak rfl ?_ J J ?_); rotate_left; first | exact ai af J J J J | exact aq af J J J J J J | exact ah af 0 J J J J J | exact aO af J J J J J J J))
    refine aw rfl (by simp; omega) ?_
    repeat' (first | refine ag ?_ | refine aa ?_ | refine ab ?_ | refine au ?_ | refine aE ?_ | refine ae ?_ | ((refine' ak rfl ?_ J J ?_); rotate_left; first | exact bA af (m := 15) j J J J J J J J J (fun _ => rfl) (fun _ => hj) | exact bT af (v := .int .i64 u.q.id) J J J J J (fun _ => hrow 0 _ rfl) | exact ai af J J J J | exact aq af J J J J J J | exact ah af 0 J J J J J))
    by_cases hh : u.q.id = id
    · rw [if_pos hh] at hr
      refine aw rfl (by simpa using hh) ?_
      repeat' (first | refine ag ?_ | refine aa ?_ | refine ab ?_ | refine aA ?_ | refine ar ?_ | refine aQ ?_ | refine ae ?_ | ((refine' ak rfl ?_ J J ?_); rotate_left; exact ai af J J J J))
      refine aB af (fun _ => 0) J J trivial rfl fun w hm => ⟨?_, hm.below⟩
      rw [hr]; rfl
    · rw [if_neg hh] at hr
      refine am rfl (by simpa using hh) ?_
      repeat' (first | refine aa ?_ | refine ab ?_ | refine au ?_ | refine ax ?_ | refine ae ?_ | ((refine' ak rfl ?_ J J ?_); rotate_left; first | exact a6 J J J J J (by omega) | exact ai af J J J J))
      refine aR (j + 1) [true] ⟨hj, hr⟩ (show v.qv.length - (j + 1) < v.qv.length - j by omega) ⟨J, J, J, trivial⟩ rfl
  · rw [List.drop_eq_nil_of_le (by omega)] at hr
    repeat' (first | refine ag ?_ | refine aa ?_ | refine ab ?_ | refine ae ?_ | ((refine' ak rfl ?_ J J ?_); rotate_left; first | exact ai af J J J J | exact aq af J J J J J J | exact ah af 0 J J J J J | exact aO af J J J J J J J))
    refine am rfl (by simp; omega) ?_
    repeat' (first | refine ag ?_ | refine aa ?_ | refine ab ?_ | refine aA ?_ | refine a8 ?_ | refine aH ?_ | refine aN ?_ | refine ae ?_ | ((refine' ak rfl ?_ J J ?_); rotate_left; exact ai af J J J J))
    refine aB af (fun _ => 0) J J trivial rfl fun w hm => ⟨?_, hm.below⟩
    rw [hr]; rfl
theorem wb {A : Nat → Prop} (v : CV) (id : Int) (o : Option Nat) (w : World) (hC : COk A w v) (hzq : v.qv.length ≤ 703687441776) (h : dh id v.c.qs 0 = o) : Calls Tryz.prog 70 #[.agg ⟨[.slice v.b v.c.bs.length v.bc, .int .i64 v.c.ra, .int .i64 v.c.rb, .int .i64 v.c.rc, .int .i64 v.c.rk, .int .i64 v.c.tk, .int .i64 v.c.mo, .int .i64 v.c.gn, .slice v.x v.qv.length v.xc, .int .i64 v.c.nx]⟩, .int .i64 id] w fun e w' => e = .returned (.int .i64 (zL o)) ∧ Below w.heap.size w w' := by subst h; exact qm v id w hC hzq
set_option maxRecDepth 100000 in
set_option maxHeartbeats 8000000 in
theorem lM {A : Nat → Prop} (v : CV) (w : World) (hC : COk A w v) (hzq : v.qv.length ≤ 703687441776) : Calls Tryz.prog 15 #[.agg #[.slice v.b v.c.bs.length v.bc, .int .i64 v.c.ra, .int .i64 v.c.rb, .int .i64 v.c.rc, .int .i64 v.c.rk, .int .i64 v.c.tk, .int .i64 v.c.mo, .int .i64 v.c.gn, .slice v.x v.qv.length v.xc, .int .i64 v.c.nx]] w fun e w' => ∃ p : Option Addr × Nat, True ∧ e = .returned (.slice p.1 (bQ v.c.qs).length p.2) ∧ Made w w' [.own p.1 p.2 3 1 (bQ v.c.qs).length ((bQ v.c.qs).flatMap iC)] := by
  refine aD Tryz.func15 rfl Tryz.ntmps15 J J ?_
  have hl := hC.lenq
  repeat' (first | refine ag ?_ | refine aa ?_ | refine ab ?_ | refine aE ?_ | refine ae ?_ | (refine aT J J J J J J ?_; intro g2) | ((refine' ak rfl ?_ J J ?_); rotate_left; exact ai af J J J J))
  refine iT 3 1 ?_
  refine bF (σ := Nat × Option Addr × Nat) (fun p => p.1 ≤ v.qv.length) (fun p => [(4, [], .int .i64 ((p.1 : Nat) : Int)), (1, [], .pointer (some ⟨g2, 0, none⟩)), (3, [], .slice p.2.1 (bQ (v.c.qs.take p.1)).length p.2.2)]) (fun p => [.own p.2.1 p.2.2 3 1 (bQ (v.c.qs.take p.1)).length ((bQ (v.c.qs.take p.1)).flatMap iC), .cl g2 32 [.slice v.b v.c.bs.length v.bc, .int .i64 v.c.ra, .int .i64 v.c.rb, .int .i64 v.c.rc, .int .i64 v.c.rk, .int .i64 v.c.tk, .int .i64 v.c.mo, .int .i64 v.c.gn, .slice v.x v.qv.length v.xc, .int .i64 v.c.nx]]) (fun p => v.qv.length - p.1) (0, none, 0) [true, true] (Nat.zero_le _) ⟨J, J, J, trivial⟩ rfl ?_
  rintro ⟨j, pa, pc⟩ hj0
  dsimp only at hj0 ⊢
  by_cases hj : j < v.qv.length
  · skip
    obtain ⟨u, hu0⟩ : ∃ u, v.qv[j]? = some u := ⟨v.qv[j], List.getElem?_eq_getElem hj⟩
    obtain ⟨bb, off, hx, _, _, hrows⟩ := hC.qs (by omega)
    have hrow : w.rangeAt bb (off + j * 15) (QC u) := hrows j u hu0
    rw [hx]
    have hq : v.c.qs[j]? = some u.q := by rw [hC.eq, List.getElem?_map, hu0]; rfl
    have hsn := dW hq
    have hal := jr (v.c.qs.take j)
    rw [List.length_take] at hal
    repeat' (first | refine ag ?_ | refine aa ?_ | refine ab ?_ | refine ae ?_ | ((refine' ak rfl ?_ J J ?_); rotate_left; first | exact ai af J J J J | exact aq af J J J J J J | exact ah af 1 J J J J J | exact aO af J J J J J J J))
    refine aw rfl (by simp; omega) ?_
    repeat' (first | refine ag ?_ | refine aa ?_ | refine ab ?_ | refine au ?_ | refine aE ?_ | refine ae ?_ | ((refine' ak rfl ?_ J J ?_); rotate_left; first | exact bA af (m := 15) j J J J J J J J J (fun _ => rfl) (fun _ => hj) | exact bT af (v := .bool u.q.dn) J J J J J (fun _ => hrow 12 _ rfl) | exact ai af J J J J | exact ah af 1 J J J J J))
    cases hdn : u.q.dn with
    | true =>
      refine am rfl (by simp) ?_
      repeat' (first | refine aa ?_ | refine ab ?_ | refine au ?_ | refine ax ?_ | refine ae ?_ | ((refine' ak rfl ?_ J J ?_); rotate_left; first | exact a6 J J J J J (by omega) | exact ai af J J J J))
      refine aR (j + 1, pa, pc) [true, true] hj (show v.qv.length - (j + 1) < v.qv.length - j by omega) ⟨rfl, rfl, ?_, trivial⟩ ?_
      · dsimp only; rw [hsn, dL]; simp [bQ, hdn, lk]
      · dsimp only; rw [hsn, dL]; simp [bQ, hdn, dV]
    | false =>
      refine aw rfl (by simp) ?_
      repeat' (first | refine aa ?_ | refine ab ?_ | refine ax ?_ | refine ae ?_ | (refine bq af J J J ⟨J, trivial⟩ J J J J J J J J ?_; intro g) | (refine bK af 1 0 J J J J J J J J J (fun _ _ => rfl) qO J J (by unfold maxLen; omega) (by omega) J J ?_; intro sa sc) | ((refine' ak rfl ?_ J J ?_); rotate_left; first | exact a6 J J J J J (by omega) | exact bA af (m := 15) j J J J J J J J J (fun _ => rfl) (fun _ => hj) | exact bT af (v := .int .i64 u.q.id) J J J J J (fun _ => hrow 0 _ rfl) | exact ai af J J J J | exact ah af 1 J J J J J))
      refine aR (j + 1, sa, sc) [false, true, true] hj (show v.qv.length - (j + 1) < v.qv.length - j by omega) ⟨rfl, rfl, ?_, trivial⟩ ?_
      · dsimp only; rw [hsn, dL]; simp [bQ, hdn, lk]
      · dsimp only; rw [hsn, dL]; simp [bQ, hdn, dV, iC]; rfl
  · have hjl : j = v.qv.length := by omega
    have htk : v.c.qs.take j = v.c.qs := List.take_of_length_le (by omega)
    rw [htk]
    repeat' (first | refine ag ?_ | refine aa ?_ | refine ab ?_ | refine ae ?_ | ((refine' ak rfl ?_ J J ?_); rotate_left; first | exact ai af J J J J | exact aq af J J J J J J | exact ah af 1 J J J J J | exact aO af J J J J J J J))
    refine am rfl (by simp; omega) ?_
    repeat' (first | refine ag ?_ | refine aa ?_ | refine ab ?_ | refine aA ?_ | refine a8 ?_ | refine aH ?_ | refine aN ?_ | refine ae ?_ | ((refine' ak rfl ?_ J J ?_); rotate_left; exact ai af J J J J))
    refine aB af (fun _ => 0) J J trivial rfl fun w1 hm => ⟨(pa, pc), trivial, rfl, Made.own (hm.mask [true, false] rfl) (fun e he => by obtain rfl := List.mem_singleton.1 he; rfl)⟩
set_option maxRecDepth 100000 in
set_option maxHeartbeats 8000000 in
theorem j9 {A A' : Nat → Prop} (x x' : Option Addr) (c c' : Nat) (l l' : List QV) (w : World) (hR : Rws A w 15 QC x l) (hR' : Rws A' w 15 QC x' l') (he : l.map (·.q) = l'.map (·.q)) (ho : ∀ u ∈ l, QOk A w u) (ho' : ∀ u ∈ l', QOk A' w u) (hz : ∀ u ∈ l, eP u.q) (hlen : l.length ≤ 9000000000000000000) : Calls Tryz.prog 24 #[.slice x l.length c, .slice x' l'.length c'] w fun e w' => e = .returned (.bool true) ∧ Below w.heap.size w w' := by
  have hln := eW he
  rw [← hln]
  refine aD Tryz.func24 rfl Tryz.ntmps24 J J ?_
  repeat' (first | refine ag ?_ | refine aa ?_ | refine ab ?_ | refine ae ?_ | ((refine' ak rfl ?_ J J ?_); rotate_left; first | exact ai af J J J J | exact aq af J J J J J J | exact aO af J J J J J J J))
  refine am rfl (by simp) ?_
  repeat' (first | refine ag ?_ | refine aa ?_ | refine ab ?_ | refine au ?_ | refine aE ?_ | refine ae ?_ | ((refine' ak rfl ?_ J J ?_); rotate_left; exact ai af J J J J))
  refine bF (σ := Nat) (fun p => p ≤ l.length) (fun p => [(5, [], .int .i64 ((p : Nat) : Int)), (0, [], .slice x l.length c), (1, [], .slice x' l.length c')]) (fun _ => []) (fun p => l.length - p) 0 [] (Nat.zero_le _) ⟨J, J, J, trivial⟩ rfl ?_
  intro j hj0
  by_cases hj : j < l.length
  · obtain ⟨u, hu⟩ : ∃ u, l[j]? = some u := ⟨l[j], List.getElem?_eq_getElem hj⟩
    obtain ⟨u', hu'⟩ : ∃ u, l'[j]? = some u := ⟨l'[j], List.getElem?_eq_getElem (by omega)⟩
    have hqq : u'.q = u.q := by
      have h1 : (l.map (·.q))[j]? = some u.q := by rw [List.getElem?_map, hu]; rfl
      rw [he, List.getElem?_map, hu'] at h1
      simpa using h1
    obtain ⟨bb, off, hx, _, _, hrows⟩ := hR (by omega)
    obtain ⟨bb', off', hx', _, _, hrows'⟩ := hR' (by omega)
    have hrow : w.rangeAt bb (off + j * 15) (QC u) := hrows j u hu
    have hrow' : w.rangeAt bb' (off' + j * 15) (QC u') := hrows' j u' hu'
    obtain ⟨o1, o2, o3⟩ := ho u (List.mem_of_getElem? hu)
    obtain ⟨p1, p2, p3⟩ := ho' u' (List.mem_of_getElem? hu')
    obtain ⟨z1, z2, z3⟩ := hz u (List.mem_of_getElem? hu)
    obtain ⟨q', m', mc', s', sc', a', ac'⟩ := u'
    dsimp only at hqq
    subst hqq
    subst hx hx'
    repeat' (first | refine ag ?_ | refine aa ?_ | refine ab ?_ | refine ae ?_ | ((refine' ak rfl ?_ J J ?_); rotate_left; first | exact ai af J J J J | exact aq af J J J J J J | exact aO af J J J J J J J))
    refine aw rfl (by simp; omega) ?_
    repeat' (first | refine ag ?_ | refine aa ?_ | refine ab ?_ | refine au ?_ | refine aE ?_ | refine ae ?_ | (refine aF af J J J J J J ?_; intro g6) | ((refine' ak rfl ?_ J J ?_); rotate_left; first | exact bA af (m := 15) j J J J J J J J J (fun _ => rfl) (fun _ => hj) | exact a7 af (cs := QC u) J J J J J (fun _ => hrow) | exact a7 af (cs := QC ⟨u.q, m', mc', s', sc', a', ac'⟩) J J J J J (fun _ => hrow') | exact ai af J J J J | exact aq af J J J J J J | exact bp J J J J J | exact ah af 0 J J J J J | exact ah af 1 J J J J J) | refine aG rfl (ay J J J J ⟨J, J, trivial⟩ rfl (by kernel_rfl)) (fun w hm => ql u.q u.m m' u.mc mc' w (o1.below hm.below) (p1.below hm.below) (by omega)) J J ?_ | refine aG rfl (ay J J J J ⟨J, J, trivial⟩ rfl (by kernel_rfl)) (fun w hm => mU u.s s' u.sc sc' u.q.mg w (o2.below hm.below) (p2.below hm.below) (by omega)) J J ?_ | refine aj af 0 J J J J J J J J J J J J ?_)
    refine am rfl (by simp) ?_
    repeat' (first | refine ag ?_ | refine aa ?_ | refine ab ?_ | refine au ?_ | refine ae ?_ | ((refine' ak rfl ?_ J J ?_); rotate_left; first | exact ai af J J J J | exact aq af J J J J J J | exact bp J J J J J | exact ah af 0 J J J J J | exact ah af 1 J J J J J | exact ew af fm J J J J J J (by kernel_rfl)) | refine aG rfl (ay J J J J ⟨J, J, trivial⟩ rfl (by kernel_rfl)) (fun w hm => mU u.a a' u.ac ac' u.q.an w (o3.below hm.below) (p3.below hm.below) (by omega)) J J ?_)
    refine am rfl (by simp) ?_
    repeat' (first | refine aa ?_ | refine ab ?_ | refine au ?_ | refine ax ?_ | refine ae ?_ | ((refine' ak rfl ?_ J J ?_); rotate_left; first | exact a6 J J J J J (by omega) | exact ai af J J J J))
    refine aR (j + 1) [false, false] hj (show l.length - (j + 1) < l.length - j by omega) ⟨J, J, J, trivial⟩ rfl
  · skip
    repeat' (first | refine ag ?_ | refine aa ?_ | refine ab ?_ | refine ae ?_ | ((refine' ak rfl ?_ J J ?_); rotate_left; first | exact ai af J J J J | exact aq af J J J J J J | exact aO af J J J J J J J))
    refine am rfl (by simp; omega) ?_
    repeat' (first | refine ag ?_ | refine aa ?_ | refine ab ?_ | refine aA ?_ | refine a8 ?_ | refine aH ?_ | refine aN ?_ | refine ae ?_ | ((refine' ak rfl ?_ J J ?_); rotate_left; exact ai af J J J J))
    refine aB af (fun _ => 0) J J trivial rfl fun w hm => ⟨?_, hm.below⟩
    rfl
end Go.Proofs.YtmdkfbmpenohiaaGreatDoor.Y
namespace Go.Proofs.YtmdkfbmpenohiaaGreatDoor.Y
open Go.RowKit
theorem qn {w w' : World} {b : Nat} (h : w'.heap[b]? = w.heap[b]?) (hb : b < w.heap.size) : b < w'.heap.size := by
  rw [Array.getElem?_eq_getElem hb] at h
  exact gU h
theorem Rws.agree {α : Type} {A : Nat → Prop} {w w' : World} {sz : Nat} {f : α → List Value} {x : Option Addr} {l : List α} (h : Rws A w sz f x l) (hk : ∀ b, A b → w'.heap[b]? = w.heap[b]?) : Rws A w' sz f x l := fun h0 => by
  obtain ⟨b, off, h1, h2, h3, h4⟩ := h h0
  exact ⟨b, off, h1, h2, qn (hk b h2) h3, fun j v hj k u hu => (mv (hk b h2)).trans (h4 j v hj k u hu)⟩
theorem QOk.agree {A : Nat → Prop} {w w' : World} {v : QV} (h : QOk A w v) (hk : ∀ b, A b → w'.heap[b]? = w.heap[b]?) : QOk A w' v := ⟨h.1.agree hk, h.2.1.agree hk, h.2.2.agree hk⟩
theorem COk.agree {A : Nat → Prop} {w w' : World} {v : CV} (h : COk A w v) (hk : ∀ b, A b → w'.heap[b]? = w.heap[b]?) : COk A w' v := ⟨h.bk.agree hk, h.qs.agree hk, h.eq, fun q hq => (h.ok q hq).agree hk⟩
theorem QOk.lt {A : Nat → Prop} {w : World} {v : QV} (h : QOk A w v) : QOk (fun b => A b ∧ b < w.heap.size) w v := ⟨h.1.lt, h.2.1.lt, h.2.2.lt⟩
theorem COk.lt {A : Nat → Prop} {w : World} {v : CV} (h : COk A w v) : COk (fun b => A b ∧ b < w.heap.size) w v := ⟨h.bk.lt, h.qs.lt, h.eq, fun q hq => (h.ok q hq).lt⟩
theorem dz {B : Nat} {w : World} : ∀ {M : List Ent} {i : Nat} {F : Nat → Prop} {p : World → Prop}, MemL B w M → dY M i = some (.rep F p) → ∀ b, F b → ∀ f ∈ M, ¬ f.mut b
  | [], _, _, _, _, h => by cases h
  | e :: M, 0, F, p, h, hi => fun b hb f hf hm => by
    obtain rfl := (by simpa [dY] using hi)
    rcases List.mem_cons.1 hf with rfl | hf
    · exact hm
    · exact (h.2.1 f hf b).2 hm hb
  | e :: M, i + 1, F, p, h, hi => fun b hb f hf hm => by
    have hi' : dY M i = some (.rep F p) := hi
    rcases List.mem_cons.1 hf with rfl | hf
    · have he : Ent.rep F p ∈ M := by rw [ep] at hi'; exact List.mem_of_getElem? hi'
      exact (h.2.1 _ he b).1 hm hb
    · exact dz h.2.2 hi' b hb f hf hm
theorem Mem.out {w0 w w' : World} {M : List Ent} {A : Nat → Prop} (h : Mem w0 w M) (hA : ∀ b, A b → ∀ f ∈ M, ¬ f.mut b) (hb : Below w.heap.size w w') (p : (Nat → Prop) → World → Prop) (hp : p (fun b => (A b ∨ w.heap.size ≤ b) ∧ b < w'.heap.size) w') (hk : ∀ F w1 w2, (∀ b, F b → w2.heap[b]? = w1.heap[b]?) → p F w1 → p F w2) : Mem w0 w' (.rep (fun b => (A b ∨ w.heap.size ≤ b) ∧ b < w'.heap.size) (p (fun b => (A b ∨ w.heap.size ≤ b) ∧ b < w'.heap.size)) :: M) :=
  h.rep hb _ _ (fun k hk => ⟨hk.2, fun f hf hm => by
    rcases hk.1 with h1 | h1
    · exact hA k h1 f hf hm
    · have := ((MemL.mem h.2 f hf).mut_lt hm).2; omega⟩) hp (fun w1 w2 h1 => hk _ w1 w2 h1)
section
variable {P : Program} {l0 rest : List Oper} {Q : Exit → Act → World → Prop} {n : Nat} {w0 : World} {S : bM} {M : List Ent} {L : Cd} {o : Oper} {d : Nat}
theorem mV {σ : Type} {f : FuncId} {args : List Value} (Ψ : σ → Prop) (V : σ → Value) (E : σ → List Ent) (hg : gd l0 S o.guard = some L) (hL : aL L = true) (ho : dO P S L o f args)
    (hc : ∀ w, Mem w0 w M → Calls P f ⟨args⟩ w fun e w' => ∃ s, Ψ s ∧ e = .returned (V s) ∧ Made w w' (E s))
    (hd : o.dst = some d) (hn : Nat.blt d n = true) (h : ∀ s, Ψ s → SL P l0 Q rest n w0 ((d, [], V s) :: S) (E s ++ M)) : SL P l0 Q (o :: rest) n w0 S M := by
  have hdn : d < n := Nat.le_of_ble_eq_true hn
  refine dx hg (fun _ a w hS hM => cS (ho.ok n a w hS hL) ((hc w hM).mono ?_)) (fun h => by rw [hL] at h; cases h)
  rintro e w' ⟨s, hs, rfl, hm⟩
  refine ⟨V s, rfl, (h s hs).run _ _ ?_ (hM.made hm)⟩
  rw [hd]; exact hS.put hdn (by simp [aL])
end
def yJ : BV := ⟨⟨#[97]⟩, 0, 0, 1, 0, 0⟩
def exQ : QR := ⟨0, ⟨#[97, 46, 83]⟩, ⟨#[71, 101, 116]⟩, 0, [], 1, [⟨#[120]⟩], 0, ⟨#[]⟩, 0, 0, [], false, 0, ⟨#[]⟩⟩
def sg : CL := ⟨[yJ], 3, 100, 1000, 4096, 5000, 5000, 0, [], 1⟩
theorem zM : dQ [yJ] 3 100 1000 4096 5000 5000 0 = (sg, 0) := by kernel_rfl
def qo : CL := { sg with qs := [{ exQ with id := 1 }], nx := 2 }
theorem zN : ci sg 0 exQ = (qo, 1, 0) := by kernel_rfl
def wc : QR := { exQ with id := 1, bk := ⟨#[97]⟩, att := 1 }
def qp : CL := { qo with bs := [{ yJ with bs := 1 }], qs := [wc] }
theorem zO : cD qo 0 = (qp, [wc]) := by kernel_rfl
def ug : QR := { exQ with id := 1, att := 1, nx := 150 }
def exC4 : CL := { qo with bs := [{ yJ with fl := 1 }], qs := [ug], tk := 4000 }
theorem zP : de qp 50 1 12 ⟨#[]⟩ false = (exC4, 0) := by kernel_rfl
theorem zQ : gq exC4 1 = (ug, true) := by kernel_rfl
theorem z6 : cD exC4 149 = (exC4, []) := by kernel_rfl
def yK : QR := { ug with bk := ⟨#[97]⟩, att := 2 }
theorem z7 : (cD exC4 150).2 = [yK] := by kernel_rfl
end Go.Proofs.YtmdkfbmpenohiaaGreatDoor.Y
namespace Go.Proofs.YtmdkfbmpenohiaaGreatDoor.Y
open Go.RowKit
theorem uh {α : Type} {A : Nat → Prop} {f : α → List Value} {sz : Nat} (i : Nat) {w0 w : World} {M : List Ent} {g : Nat} {T : TypeId} {l : List α} (hf : ∀ a, (f a).length = sz) (hM : Mem w0 w M) (hi : dY M i = some (.cl g T (l.flatMap f))) (hA : A g) : Rws A w sz f (some ⟨g, 0, none⟩) l := by
  have hok : Ent.ok w0.heap.size w (.cl g T (l.flatMap f)) := MemL.get hM.2 hi
  have hb : w.heap[g]? = some (.cells ⟨l.flatMap f⟩ T (0, 0)) := hok.2
  have hlt : g < w.heap.size := gU hb
  have hcell : ∀ k u, (l.flatMap f)[k]? = some u → w.cell? ⟨g, k, none⟩ = some u := fun k u hu => Bk.at_ (show Bk w g T ⟨l.flatMap f⟩ from hb) k (by rw [List.getElem?_toArray]; exact hu)
  intro _
  refine ⟨g, 0, rfl, hA, hlt, ?_⟩
  intro j v hj k u hu
  have h9 := hcell _ u (br hf hj hu)
  rw [Nat.zero_add]
  exact h9
theorem ui {P : Program} {Q : Exit → Act → World → Prop} {l0 rest : List Oper} {n d : Nat} {w0 : World} {S : bM} {M : List Ent} {o : Oper} {σ : Type} {f : FuncId} {args : List Value} (Φ : σ → Prop) (V : σ → Value) (hg : o.guard = none) (ho : dO P S [] o f args)
    (hc : ∀ w, Mem w0 w M → Calls P f ⟨args⟩ w fun e w' => ∃ p, Φ p ∧ e = .returned (V p) ∧ Below w.heap.size w w')
    (hd : o.dst = some d) (hn : Nat.blt d n = true) (h : ∀ p, Φ p → SL P l0 Q rest n w0 ((d, [], V p) :: S) M) : SL P l0 Q (o :: rest) n w0 S M :=
  bX Φ V (fun _ => M) hg ho (fun w hM => (hc w hM).mono fun _ _ ⟨p, h1, h2, h3⟩ => ⟨p, h1, h2, hM.keep h3⟩) hd hn h
theorem uj {P : Program} {Q : Exit → Act → World → Prop} {l0 rest : List Oper} {n d : Nat} {w0 : World} {S : bM} {M : List Ent} {o : Oper} {σ : Type} {f : FuncId} {args : List Value} (Φ : σ → Prop) (V : σ → Value) (p : σ → (Nat → Prop) → World → Prop) (hg : o.guard = none) (ho : dO P S [] o f args)
    (hc : ∀ w, Mem w0 w M → Calls P f ⟨args⟩ w fun e w' => ∃ s, ∃ F : Nat → Prop, Φ s ∧ e = .returned (V s) ∧ Mem w0 w' (.rep F (p s F) :: M))
    (hd : o.dst = some d) (hn : Nat.blt d n = true) (h : ∀ s (F : Nat → Prop), Φ s → SL P l0 Q rest n w0 ((d, [], V s) :: S) (.rep F (p s F) :: M)) : SL P l0 Q (o :: rest) n w0 S M :=
  bX (σ := σ × (Nat → Prop)) (fun s => Φ s.1) (fun s => V s.1) (fun s => .rep s.2 (p s.1 s.2) :: M) hg ho (fun w hM => (hc w hM).mono fun _ _ ⟨s, F, h1, h2, h3⟩ => ⟨(s, F), h1, h2, h3⟩) hd hn (fun s hs => h s.1 s.2 hs)
theorem eH {P : Program} {l0 l : List Oper} {Q : Exit → Act → World → Prop} {n : Nat} {w0 : World} {S : bM} {M : List Ent} {p : Prop} (hc : ∀ w, Mem w0 w M → p) (h : p → SL P l0 Q l n w0 S M) : SL P l0 Q l n w0 S M := ⟨fun a w h1 h2 => (h (hc w h2)).run a w h1 h2⟩
theorem gI {A : Nat → Prop} {w : World} {v : CV} (hC : COk A w v) (h : ∀ q ∈ v.c.qs, eP q) : ∀ u ∈ v.qv, eP u.q := fun u hu => h _ (by rw [hC.eq]; exact List.mem_map_of_mem hu)
theorem uk {l : List QV} {q : QR} (h : l.map (·.q) = [q]) : ∃ u : QV, l = [u] ∧ u.q = q := by
  cases l with
  | nil => cases h
  | cons a t =>
    cases t with
    | nil => exact ⟨a, rfl, (List.cons.inj h).1⟩
    | cons b t => exact absurd (congrArg List.length h) (by simp)
theorem wd {l : List QV} (h : l.map (·.q) = []) : l = [] := by cases l with | nil => rfl | cons a l => cases h
theorem z8 : ∀ q ∈ [{ exQ with id := 1 }], eP q := fun q hq => by obtain rfl := List.mem_singleton.1 hq; exact ⟨by decide, by decide, by decide⟩
theorem Aa : ∀ q ∈ [wc], eP q := fun q hq => by obtain rfl := List.mem_singleton.1 hq; exact ⟨by decide, by decide, by decide⟩
theorem zB : ∀ q ∈ [ug], eP q := fun q hq => by obtain rfl := List.mem_singleton.1 hq; exact ⟨by decide, by decide, by decide⟩
theorem Ab : eP exQ := ⟨by decide, by decide, by decide⟩
theorem Ac : dH exQ.hd := ⟨by decide, by decide, fun _ h => by cases h⟩
def SOk (F : Nat → Prop) (w : World) (s : CV × List QV × (Option Addr × Nat)) : Prop := COk F w s.1 ∧ Rws F w 15 QC s.2.2.1 s.2.1 ∧ ∀ q ∈ s.2.1, QOk F w q
theorem SOk.agree {F : Nat → Prop} {w1 w2 : World} {s : CV × List QV × (Option Addr × Nat)} (h : SOk F w1 s) (hk : ∀ b, F b → w2.heap[b]? = w1.heap[b]?) : SOk F w2 s := ⟨h.1.agree hk, h.2.1.agree hk, fun q hq => (h.2.2 q hq).agree hk⟩
set_option maxRecDepth 100000 in
set_option maxHeartbeats 16000000 in
theorem kL  (w : World) (hg : MLen w) : Calls Tryz.prog 8 #[] w fun e w' => e = .returned (.bool true) ∧ Below w.heap.size w w' := by
  refine aD Tryz.func8 rfl Tryz.ntmps8 J J ?_
  repeat' (first | refine ag ?_ | refine aa ?_ | refine ab ?_ | refine ae ?_ | (refine bq af J J J ⟨J, trivial⟩ J J J J J J J J ?_; intro g) | ((refine' ak rfl ?_ J J ?_); rotate_left; first | exact ai af J J J J | exact aC af J J ⟨J, J, trivial⟩ J J J | exact aC af J J ⟨J, J, J, J, trivial⟩ J J J))
  refine bX (σ := CV × (Nat → Prop)) (fun s => s.1.c = sg ∧ s.1.qv = []) (fun s => .tuple ⟨[.agg ⟨CC s.1⟩, .int .i64 0]⟩) (fun s => [.rep s.2 (fun w => COk s.2 w s.1)]) rfl (ay J J J J ⟨J, J, J, trivial⟩ rfl (by kernel_rfl)) (fun w1 hm => (qS (A := fun _ => True) _ [yJ] 1 3 100 1000 4096 5000 5000 0 w1 (uh 0 cr hm rfl trivial) (by decide)).mono fun e w2 ⟨v', h1, h2, h3, h4⟩ => ⟨(v', _), ⟨by rw [h1, zM], h2⟩, by rw [h3, zM], Mem.out (hm.mask [false] rfl) (A := fun _ => True) (fun _ _ f hf => by cases hf) h4.2 (fun F w => COk F w v') h4.1.lt (fun F w3 w4 hk h => h.agree hk)⟩) J J ?_
  rintro ⟨⟨c1, b1, bc1, x1, xc1, qv1⟩, F1⟩ ⟨h1, h2⟩
  dsimp only at h1 h2
  subst h1 h2
  repeat' (first | refine ag ?_ | refine aa ?_ | refine ab ?_ | refine ae ?_ | (refine aF af J J J J J J ?_; intro g1) | (refine bq af J J J ⟨J, trivial⟩ J J J J J J J J ?_; intro g) | ((refine' ak rfl ?_ J J ?_); rotate_left; first | exact ai af J J J J | exact ah af 0 J J J J J | exact aC af J J ⟨J, J, trivial⟩ J J J | exact aC af J J ⟨J, J, J, trivial⟩ J J J) | refine aj af 0 J J J J J J J J J J J J ?_)
  refine bX (σ := CV × (Nat → Prop)) (fun s => s.1.c = qo) (fun s => .tuple ⟨[.agg ⟨CC s.1⟩, .int .i64 1, .int .i64 0]⟩) (fun s => [.rep s.2 (fun w => COk s.2 w s.1), .cl g1 32 (CC ⟨sg, b1, bc1, x1, xc1, []⟩)]) rfl (ay J J J J ⟨J, J, J, trivial⟩ rfl (by kernel_rfl)) (fun w1 hm => ?_) J J ?_
  · obtain ⟨hF, hC, _⟩ := hm.2.get (i := 2) rfl
    have hq : QOk (fun b => F1 b ∨ b = g) w1 ⟨exQ, none, 0, some ⟨g, 0, none⟩, 1, none, 0⟩ := ⟨fun h => absurd h (Nat.lt_irrefl _), uh 0 eC hm rfl (.inr rfl), fun h => absurd h (Nat.lt_irrefl _)⟩
    refine (oG (A := fun b => F1 b ∨ b = g) ⟨sg, b1, bc1, x1, xc1, []⟩ 0 ⟨exQ, none, 0, some ⟨g, 0, none⟩, 1, none, 0⟩ w1 (hC.mono fun _ => .inl) (show 0 ≤ 703687441775 by decide) (show 1 ≤ 2513169434916 by decide) (fun _ h => by cases h) hq Ab (hg.below hm.below) Ac (show (0 : Int) ≤ 1 by decide)).mono fun e w2 ⟨v', h1, h2, h3⟩ => ⟨(v', _), by rw [h1, zN], by rw [h2, zN], Mem.out (M := [.cl g1 _ _]) (hm.mask [false, true, false] rfl) (A := fun b => F1 b ∨ b = g) (fun b hb f hf hfm => ?_) h3.2 (fun F w => COk F w v') h3.1.lt (fun F w3 w4 hk h => h.agree hk)⟩
    obtain rfl := List.mem_singleton.1 hf
    rcases hb with hb | rfl
    · exact dz hm.2 (i := 2) rfl b hb _ (List.mem_cons_of_mem _ (List.mem_cons_self ..)) hfm
    · exact (hm.2.2.1 _ (List.mem_cons_self ..) b).1 rfl (Ent.mut_foot hfm)
  rintro ⟨⟨c2, b2, bc2, x2, xc2, qv2⟩, F2⟩ h1
  dsimp only at h1
  subst h1
  repeat' (first | refine ag ?_ | refine aa ?_ | refine ab ?_ | refine ae ?_ | ((refine' ak rfl ?_ J J ?_); rotate_left; first | exact ai af J J J J | exact ah af 1 J J J J J) | refine aj af 1 J J J J J J J J J J J J ?_)
  refine bX (σ := (CV × List QV × (Option Addr × Nat)) × (Nat → Prop)) (fun s => s.1.1.c = qp ∧ s.1.2.1.map (·.q) = [wc]) (fun s => .tuple ⟨[.agg ⟨CC s.1.1⟩, .slice s.1.2.2.1 s.1.2.1.length s.1.2.2.2]⟩) (fun s => [.rep s.2 (fun w => SOk s.2 w s.1), .cl g1 32 (CC ⟨qo, b2, bc2, x2, xc2, qv2⟩)]) rfl (ay J J J J ⟨J, J, trivial⟩ rfl (by kernel_rfl)) (fun w1 hm => ?_) J J ?_
  · obtain ⟨hF, hC, _⟩ := hm.2.get (i := 0) rfl
    refine (iF (A := F2) ⟨qo, b2, bc2, x2, xc2, qv2⟩ 0 w1 hC (by have h9 := hC.lenq; dsimp only at h9; rw [← h9]; decide) (show 1 ≤ 2513169434916 by decide) (gI hC z8) (fun b hb => by obtain rfl := List.mem_singleton.1 hb; decide) (fun q hq => by obtain rfl := List.mem_singleton.1 hq; decide)).mono fun e w2 ⟨s, ⟨h1, h2⟩, h3, h4, h5, h6⟩ => ⟨(s, _), ⟨by rw [h1, zO], by rw [h2, zO]⟩, h3, Mem.out (M := [.cl g1 _ _]) (hm.mask [false, true] rfl) (A := F2) (fun b hb f hf hfm => ?_) h4.2 (fun F w => SOk F w s) ⟨h4.1.lt, (h5.mono fun _ => .inr).lt, fun q hq => ((h6 q hq).mono fun _ => .inr).lt⟩ (fun F w3 w4 hk h => h.agree hk)⟩
    obtain rfl := List.mem_singleton.1 hf
    exact dz hm.2 (i := 0) rfl b hb _ (List.mem_cons_of_mem _ (List.mem_cons_self ..)) hfm
  rintro ⟨⟨⟨c3, b3, bc3, x3, xc3, qv3⟩, l3, la3, lc3⟩, F3⟩ ⟨h1, h2⟩
  dsimp only at h1 h2
  subst h1
  obtain ⟨u3, rfl, hu3⟩ := uk h2
  clear h2
  repeat' (first | refine ag ?_ | refine aa ?_ | refine ab ?_ | refine ae ?_ | ((refine' ak rfl ?_ J J ?_); rotate_left; first | exact ai af J J J J | exact ah af 1 J J J J J | exact aC af J J ⟨J, trivial⟩ J J J) | refine aj af 1 J J J J J J J J J J J J ?_)
  refine bX (σ := CV × (Nat → Prop)) (fun s => s.1.c = exC4) (fun s => .tuple ⟨[.agg ⟨CC s.1⟩, .int .i64 0]⟩) (fun s => [.rep s.2 (fun w => COk s.2 w s.1), .rep F3 (fun w => SOk F3 w (⟨qp, b3, bc3, x3, xc3, qv3⟩, [u3], (la3, lc3))), .cl g1 32 (CC ⟨qp, b3, bc3, x3, xc3, qv3⟩)]) rfl (ay J J J J ⟨J, J, J, J, J, trivial⟩ rfl (by kernel_rfl)) (fun w1 hm => ?_) J J ?_
  · obtain ⟨hF, hS, _⟩ := hm.2.get (i := 0) rfl
    have hC := hS.1
    refine (mG (A := F3) ⟨qp, b3, bc3, x3, xc3, qv3⟩ 50 1 12 ⟨#[]⟩ false w1 hC (by have h9 := hC.lenq; dsimp only at h9; rw [← h9]; decide) (show 1 ≤ 2513169434916 by decide) (gI hC Aa) (fun b hb => by obtain rfl := List.mem_singleton.1 hb; decide) (show 0 ≤ 4611686018427387900 by decide) (fun q hq => by obtain rfl := List.mem_singleton.1 hq; decide)).mono fun e w2 ⟨v', h1, h2, h3⟩ => ⟨(v', _), by rw [h1, zP], by rw [h2, zP], Mem.out (M := [_, _]) hm (A := F3) (fun b hb f hf hfm => dz hm.2 (i := 0) rfl b hb f hf hfm) h3.2 (fun F w => COk F w v') h3.1.lt (fun F w3 w4 hk h => h.agree hk)⟩
  rintro ⟨⟨c4, b4, bc4, x4, xc4, qv4⟩, F4⟩ h1
  dsimp only at h1
  subst h1
  repeat' (first | refine ag ?_ | refine aa ?_ | refine ab ?_ | refine ae ?_ | ((refine' ak rfl ?_ J J ?_); rotate_left; first | exact ai af J J J J | exact ah af 2 J J J J J) | refine aj af 2 J J J J J J J J J J J J ?_)
  refine bf (σ := QV) (fun s => s.q = ug) (fun s => .tuple ⟨[.agg ⟨QC s⟩, .bool true]⟩) EQ rfl (ay J J J J ⟨J, J, trivial⟩ rfl (by kernel_rfl)) (fun w1 hm => ?_) J J ?_
  · obtain ⟨hF, hC, _⟩ := hm.2.get (i := 0) rfl
    exact (rV (A := F4) ⟨exC4, b4, bc4, x4, xc4, qv4⟩ 1 w1 hC (by have h9 := hC.lenq; dsimp only at h9; rw [← h9]; decide) (gI hC zB)).mono fun e w2 ⟨v', h1, h2, h3⟩ => ⟨v', by rw [h1, zQ], by rw [h2, zQ], h3⟩
  rintro ⟨q5, m5, mc5, s5, sc5, a5, ac5⟩ h1
  dsimp only at h1
  subst h1
  dsimp only [EQ, List.cons_append, List.nil_append]
  repeat' (first | refine ag ?_ | refine aa ?_ | refine ab ?_ | refine ae ?_ | (refine aF af J J J J J J ?_; intro g7) | ((refine' ak rfl ?_ J J ?_); rotate_left; first | exact ai af J J J J | exact ah af 6 J J J J J) | refine aj af 0 J J J J J J J J J J J J ?_)
  refine ui (σ := CV × List QV × (Option Addr × Nat)) (fun s => s.2.1 = []) (fun s => .tuple ⟨[.agg ⟨CC s.1⟩, .slice s.2.2.1 s.2.1.length s.2.2.2]⟩) rfl (ay J J J J ⟨J, J, trivial⟩ rfl (by kernel_rfl)) (fun w1 hm => ?_) J J ?_
  · obtain ⟨hF, hC, _⟩ := hm.2.get (i := 4) rfl
    exact (iF (A := F4) ⟨exC4, b4, bc4, x4, xc4, qv4⟩ 149 w1 hC (by have h9 := hC.lenq; dsimp only at h9; rw [← h9]; decide) (show 1 ≤ 2513169434916 by decide) (gI hC zB) (fun b hb => by obtain rfl := List.mem_singleton.1 hb; decide) (fun q hq => by obtain rfl := List.mem_singleton.1 hq; decide)).mono fun e w2 ⟨s, ⟨h1, h2⟩, h3, h4, h5, h6⟩ => ⟨s, wd (by rw [h2, z6]), h3, h4.2⟩
  rintro ⟨v6, l6, la6, lc6⟩ h1
  dsimp only at h1
  subst h1
  repeat' (first | refine ag ?_ | refine aa ?_ | refine ab ?_ | refine ae ?_ | (refine aF af J J J J J J ?_; intro g9) | ((refine' ak rfl ?_ J J ?_); rotate_left; first | exact ai af J J J J | exact ah af 7 J J J J J) | refine aj af 0 J J J J J J J J J J J J ?_)
  refine uj (σ := CV × List QV × (Option Addr × Nat)) (fun s => s.2.1.map (·.q) = [yK]) (fun s => .tuple ⟨[.agg ⟨CC s.1⟩, .slice s.2.2.1 s.2.1.length s.2.2.2]⟩) (fun s F w => SOk F w s) rfl (ay J J J J ⟨J, J, trivial⟩ rfl (by kernel_rfl)) (fun w1 hm => ?_) J J ?_
  · obtain ⟨hF, hC, _⟩ := hm.2.get (i := 5) rfl
    exact (iF (A := F4) ⟨exC4, b4, bc4, x4, xc4, qv4⟩ 150 w1 hC (by have h9 := hC.lenq; dsimp only at h9; rw [← h9]; decide) (show 1 ≤ 2513169434916 by decide) (gI hC zB) (fun b hb => by obtain rfl := List.mem_singleton.1 hb; decide) (fun q hq => by obtain rfl := List.mem_singleton.1 hq; decide)).mono fun e w2 ⟨s, ⟨h1, h2⟩, h3, h4, h5, h6⟩ => ⟨s, _, by rw [h2, z7], h3, Mem.out hm (A := F4) (fun b hb f hf hfm => dz hm.2 (i := 5) rfl b hb f hf hfm) h4.2 (fun F w => SOk F w s) ⟨h4.1.lt, (h5.mono fun _ => .inr).lt, fun q hq => ((h6 q hq).mono fun _ => .inr).lt⟩ (fun F w3 w4 hk h => h.agree hk)⟩
  rintro ⟨v7, l7, la7, lc7⟩ F7 h1
  dsimp only at h1
  obtain ⟨u7, rfl, hu7⟩ := uk h1
  clear h1
  refine eH (p := (∃ b off, la3 = some ⟨b, off, none⟩ ∧ ∀ w, SOk F3 w (⟨qp, b3, bc3, x3, xc3, qv3⟩, [u3], (la3, lc3)) → w.rangeAt b (off + 0 * 15) (QC u3)) ∧ ∃ b off, la7 = some ⟨b, off, none⟩ ∧ ∀ w, SOk F7 w (v7, [u7], (la7, lc7)) → w.rangeAt b (off + 0 * 15) (QC u7)) (fun w hM => ⟨?_, ?_⟩) ?_
  · obtain ⟨_, hS, _⟩ := hM.2.get (i := 7) rfl
    obtain ⟨b, off, hx, _⟩ := hS.2.1 (show 0 < 1 by decide)
    dsimp only at hx
    refine ⟨b, off, hx, fun w2 h2 => ?_⟩
    obtain ⟨b', off', hx', _, _, h4⟩ := h2.2.1 (show 0 < 1 by decide)
    dsimp only at hx'
    rw [hx] at hx'
    obtain ⟨rfl, rfl⟩ := (by simpa using hx')
    exact h4 0 u3 rfl
  · obtain ⟨_, hS, _⟩ := hM.2.get (i := 0) rfl
    obtain ⟨b, off, hx, _⟩ := hS.2.1 (show 0 < 1 by decide)
    dsimp only at hx
    refine ⟨b, off, hx, fun w2 h2 => ?_⟩
    obtain ⟨b', off', hx', _, _, h4⟩ := h2.2.1 (show 0 < 1 by decide)
    dsimp only at hx'
    rw [hx] at hx'
    obtain ⟨rfl, rfl⟩ := (by simpa using hx')
    exact h4 0 u7 rfl
  rintro ⟨⟨y3, o3, rfl, hr3⟩, ⟨y7, o7, rfl, hr7⟩⟩
  repeat' (first | refine ag ?_ | refine aa ?_ | refine ab ?_ | refine ae ?_ | (refine aF af J J J J J J ?_; intro g11) | ((refine' ak rfl ?_ J J ?_); rotate_left; first | exact bA af (m := 15) 0 J J J J J J J J (fun _ => rfl) (fun _ => (show 0 < 1 by decide)) | exact hX af 8 (v := .string ⟨#[97]⟩) J J J J J J (fun _ w hp => by have h9 := hr3 w hp 8 _ rfl; rw [hu3] at h9; exact h9) | exact hX af 1 (v := .int .i64 2) J J J J J J (fun _ w hp => by have h9 := hr7 w hp 7 _ rfl; rw [hu7] at h9; exact h9) | exact ai af J J J J | exact aq af J J J J J J | exact bx J J J J J | exact ah af 3 J J J J J | exact ah af 9 J J J J J | exact aO af J J J J J J J) | refine aj af 0 J J J J J J J J J J J J ?_)
  refine mV (σ := Option Addr × Nat) (fun _ => True) (fun p => .slice p.1 (bQ exC4.qs).length p.2) (fun p => [.own p.1 p.2 3 1 (bQ exC4.qs).length ((bQ exC4.qs).flatMap iC)]) rfl (by kernel_rfl) (ay J J J J ⟨J, trivial⟩ rfl (by kernel_rfl)) (fun w1 hm => ?_) J J ?_
  · obtain ⟨hF, hC, _⟩ := hm.2.get (i := 7) rfl
    exact ny (A := F4) ⟨exC4, b4, bc4, x4, xc4, qv4⟩ w1 hC (by have h9 := hC.lenq; dsimp only at h9; rw [← h9]; decide)
  rintro ⟨pa, pc⟩ -
  dsimp only [List.cons_append, List.nil_append]
  repeat' (first | refine ab ?_ | refine aA ?_ | refine ae ?_ | ((refine' ak rfl ?_ J J ?_); rotate_left; first | exact ai af J J J J | exact aq af J J J J J J | exact bx J J J J J | exact aO af J J J J J J J))
  refine aB af (fun _ => 0) J J trivial rfl fun w hm => ⟨?_, hm.below⟩
  kernel_rfl
end Go.Proofs.YtmdkfbmpenohiaaGreatDoor.Y
namespace Go.Proofs.YtmdkfbmpenohiaaGreatDoor.Y
open Go.RowKit
end Go.Proofs.YtmdkfbmpenohiaaGreatDoor.Y
