/- Texts of this claim merged into one: Cl7, Cl8, Cl9. -/
import Derived.Test.YtmdkfbmpenohiaaGreatDoorBunC4
import Derived.Test.YtmdkfbmpenohiaaGreatDoorBunE
namespace Go.Proofs.YtmdkfbmpenohiaaGreatDoor.Y
open Go.RowKit
theorem nB {nm : ByteArray} : ∀ {l : List BV} {i : Nat}, eA nm l 0 = some i → ∃ b, l[i]? = some b ∧ rI b.nm nm = true := by
  have key : ∀ (l : List BV) (k i : Nat), eA nm l k = some i → k ≤ i ∧ ∃ b, l[i - k]? = some b ∧ rI b.nm nm = true := by
    intro l
    induction l with
    | nil => intro k i h; cases h
    | cons a l ih =>
      intro k i h
      unfold eA at h
      split at h
      · obtain rfl := (by simpa using h : k = i)
        exact ⟨Nat.le_refl _, a, by simp, by assumption⟩
      · obtain ⟨h1, q, h2, h3⟩ := ih (k + 1) i h
        refine ⟨by omega, q, ?_, h3⟩
        rw [show i - k = i - (k + 1) + 1 by omega]; simpa using h2
  intro l i h
  obtain ⟨_, q, h2, h3⟩ := key l 0 i h
  exact ⟨q, by simpa using h2, h3⟩
theorem wH {A : Nat → Prop} (x : Option Addr) (l : List BV) (cap : Nat) (nm : ByteArray) (o : Option Nat) (w : World) (hR : Rws A w 6 bC x l) (hlen : l.length ≤ 2513169434916) (h : eA nm l 0 = o) : Calls Tryz.prog 90 #[.slice x l.length cap, .string nm] w fun e w' => e = .returned (zp o) ∧ Below w.heap.size w w' := by subst h; exact tq x l cap nm w hR hlen
theorem qT (n : Int) : bI (bI n) = bI n := by unfold bI cp; omega
theorem oH (code now : Int) : db code (bI now) = db code now := by
  funext b
  unfold db
  rw [qT]
def mF (u : QV) : QV := { u with q := { u.q with bk := aZ, st := 0 } }
theorem gF {l : List QV} {i : Nat} {u : QV} (h : l[i]? = some u) (f : QV → QV) (f' : QR → QR) (hf : (f u).q = f' u.q) : (l.set i (f u)).map (·.q) = (l.map (·.q)).modify i f' := by
  apply List.ext_getElem?
  intro j
  rw [List.getElem?_map, List.getElem?_set, List.getElem?_modify, List.getElem?_map]
  by_cases hj : i = j
  · subst hj
    have := (List.getElem?_eq_some_iff.1 h).1
    simp [this, hf, (List.getElem?_eq_some_iff.1 h).2]
  · simp [hj]
theorem j1 {l : List QV} {i : Nat} {u u' : QV} (h : l[i]? = some u) (hu : EQ u' = EQ u) : (l.set i u').flatMap EQ = l.flatMap EQ := by
  obtain ⟨h1, h2⟩ := List.getElem?_eq_some_iff.1 h
  have h3 : l = l.take i ++ u :: l.drop (i + 1) := by rw [← h2, List.getElem_cons_drop, List.take_append_drop]
  rw [List.set_eq_take_append_cons_drop, if_pos h1]
  rw [List.flatMap_append, List.flatMap_cons, hu]
  conv => rhs; rw [h3, List.flatMap_append, List.flatMap_cons]
theorem eQ {c : CL} {qv : List QV} {i : Nat} {u : QV} (hq : c.qs = qv.map (·.q)) (h : qv[i]? = some u) : i9 c i = u.q := by
  unfold i9
  rw [List.getD_eq_getElem?_getD, hq, List.getElem?_map, h]; rfl
def EM (g : Nat) (v : CV) : List Ent := [.own v.x v.xc 50 15 v.qv.length (v.qv.flatMap QC), .own v.b v.bc 64 6 v.c.bs.length (v.c.bs.flatMap bC), .cl g 32 (CC v)]
theorem fQ {l : List QV} {k : Nat} {v : QV} (h : l[k]? = some v) (u : QV) : (l.set k u)[k]? = some u := by
  rw [List.getElem?_set_self]
  exact (List.getElem?_eq_some_iff.1 h).1
set_option maxRecDepth 100000 in
set_option maxHeartbeats 8000000 in
theorem oI {w0 : World} {M : List Ent} (g gx xc : Nat) (b : Option Addr) (bc : Nat) (c : CL) (qv : List QV) (i : Nat) (u : QV) (hu : qv[i]? = some u) (code now : Int) (w : World) (hq : c.qs = qv.map (·.q)) (hbo : ∀ b ∈ c.bs, dK b = true) (hbl : c.bs.length ≤ 2513169434916) (hM : Mem w0 w (.own (some ⟨gx, 0, none⟩) xc 50 15 qv.length ((qv).flatMap QC) :: .own b bc 64 6 c.bs.length ((c.bs).flatMap bC) :: .cl g 32 [.slice b c.bs.length bc, .int .i64 c.ra, .int .i64 c.rb, .int .i64 c.rc, .int .i64 c.rk, .int .i64 c.tk, .int .i64 c.mo, .int .i64 c.gn, .slice (some ⟨gx, 0, none⟩) qv.length xc, .int .i64 c.nx] :: M)) : Calls Tryz.prog 56 #[.pointer (some ⟨g, 0, none⟩), .int .i64 ((i : Nat) : Int), .int .i64 code, .int .i64 now] w fun e w' => ∃ s : Value × CV, (s.2.c = ct c i code now ∧ s.2.x = some ⟨gx, 0, none⟩ ∧ s.2.xc = xc ∧ s.2.qv.map (·.q) = s.2.c.qs ∧ s.2.qv.flatMap EQ = qv.flatMap EQ ∧ s.2.qv.length = qv.length) ∧ e = .returned s.1 ∧ Mem w0 w' (EM g s.2 ++ M) := by
  refine iv hM Tryz.func56 rfl Tryz.ntmps56 J J ?_
  have hi : i < qv.length := (List.getElem?_eq_some_iff.1 hu).1
  have hat := eQ hq hu
  repeat' (first | refine ag ?_ | refine aa ?_ | refine ab ?_ | refine ae ?_ | ((refine' ak rfl ?_ J J ?_); rotate_left; first | exact bA af (m := 15) i J J J J J J J J (fun _ => rfl) (fun _ => hi) | exact cw af 0 (v := .string u.q.bk) J J J J J J (fun _ => by rw [Nat.zero_add]; exact br bj hu (k := 8) rfl) | exact ai af J J J J | exact aq af J J J J J J | exact ah af 2 J J J J J))
  by_cases hb : u.q.bk.size = 0
  · refine aw rfl (by rw [cI]; simpa using hb) ?_
    have hs : ct c i code now = c := by unfold ct; rw [hat]; exact if_pos hb
    repeat' (first | refine aA ?_ | refine ar ?_)
    (refine aB af (fun _ => 0) J J trivial rfl fun w1 hm => ?_)
    exact ⟨(_, ⟨c, b, bc, some ⟨gx, 0, none⟩, xc, qv⟩), ⟨hs.symm, rfl, rfl, hq.symm, rfl, rfl⟩, rfl, hm⟩
  · refine am rfl (by rw [cI]; simpa using hb) ?_
    have hmap := gF hu mF (fun q => { q with bk := aZ, st := 0 }) rfl
    have hEQ := j1 hu (u' := mF u) rfl
    cases hf : eA u.q.bk c.bs 0 with
    | none =>
      have hs : ct c i code now = { c with qs := c.qs.modify i (fun q => { q with bk := aZ, st := 0 }) } := by
        unfold ct; rw [hat]; simp only [if_neg hb, hf]; rfl
      repeat' (first | refine ag ?_ | refine aa ?_ | refine ab ?_ | refine au ?_ | refine aY aK rfl (by kernel_rfl) ?_ | refine ae ?_ | refine bz ?_ | ((first | refine' ak rfl ?_ J J ?_ | refine' dm rfl ?_ J J J ?_); rotate_left; first | exact cw af 0 (v := .string u.q.bk) J J J J J J (fun _ => by rw [Nat.zero_add]; exact br bj hu (k := 8) rfl) | exact ai af J J J J | exact ah af 2 J J J J J) | refine bY rfl (ay J J J J ⟨J, J, trivial⟩ rfl (by kernel_rfl)) rfl (fun w hm => wH b c.bs bc u.q.bk none w (Rws.own cr (hm.2.get (i := 1) rfl)) hbl hf) J J ?_)
      refine am J J ?_
      repeat' (first | refine aa ?_ | refine ab ?_ | refine au ?_ | ((refine' ak rfl ?_ J J ?_); rotate_left; exact ai af J J J J))
      refine ce af 0 J J J J J J J J J (show gQ _ (0 + i * 15 + 8) _ = _ from by rw [Nat.zero_add]; exact bS bj (qv) i 8 (u) ({ u with q := { u.q with bk := aZ } }) _ hu rfl) J J ?_
      repeat' (((refine' ak rfl ?_ J J ?_); rotate_left; exact ai af J J J J))
      refine ce af 0 J J J J J J J J J (show gQ _ (0 + i * 15 + 9) _ = _ from by rw [Nat.zero_add]; exact bS bj (qv.set i { u with q := { u.q with bk := aZ } }) i 9 ({ u with q := { u.q with bk := aZ } }) (mF u) _ (fQ hu _) rfl) J J ?_
      repeat' (refine ae ?_)
      (refine hJ af (fun _ => 0) J J trivial rfl fun w1 hm => ?_)
      refine ⟨(_, ⟨ct c i code now, b, bc, some ⟨gx, 0, none⟩, xc, qv.set i (mF u)⟩), ⟨rfl, rfl, rfl, by rw [hs, hmap, hq], hEQ, List.length_set⟩, rfl, ?_⟩
      rw [hs]
      rw [List.set_set] at hm
      unfold EM CC
      simp only [List.length_set]
      exact hm
    | some k =>
      obtain ⟨bv, hbv, _⟩ := nB hf
      have hbk := hbo bv (List.mem_of_getElem? hbv)
      have hs : ct c i code now = { c with bs := bR (db code now) c.bs k, qs := c.qs.modify i (fun q => { q with bk := aZ, st := 0 }) } := by
        unfold ct; rw [hat]; simp only [if_neg hb, hf]; rfl
      repeat' (first | refine ag ?_ | refine aa ?_ | refine ab ?_ | refine au ?_ | refine aY aK rfl (by kernel_rfl) ?_ | refine ae ?_ | refine bz ?_ | ((first | refine' ak rfl ?_ J J ?_ | refine' dm rfl ?_ J J J ?_); rotate_left; first | exact cw af 0 (v := .string u.q.bk) J J J J J J (fun _ => by rw [Nat.zero_add]; exact br bj hu (k := 8) rfl) | exact ai af J J J J | exact ah af 2 J J J J J) | refine bY rfl (ay J J J J ⟨J, J, trivial⟩ rfl (by kernel_rfl)) rfl (fun w hm => wH b c.bs bc u.q.bk (some k) w (Rws.own cr (hm.2.get (i := 1) rfl)) hbl hf) J J ?_)
      refine aw J J ?_
      repeat' (first | refine aa ?_ | ((refine' ak rfl ?_ J J ?_); rotate_left; first | exact ai af J J J J | exact ah af 2 J J J J J))
      refine bf (σ := Option Addr × Nat) (fun _ => True) (fun p => .slice p.1 c.bs.length p.2) (fun p => [.own p.1 p.2 64 6 c.bs.length ((bR (db code (bI now)) c.bs k).flatMap bC)]) rfl (ay J J J J ⟨J, J, J, J, trivial⟩ rfl (by kernel_rfl)) (fun w1 hm => tB b c.bs bc k bv code now w1 (Rws.own cr (hm.2.get (i := 1) rfl)) hbl hbv hbk) J J ?_
      rintro ⟨pb, pbc⟩ -
      dsimp only [List.cons_append, List.nil_append]
      repeat' (first | refine aa ?_ | refine ab ?_ | refine ae ?_ | ((refine' ak rfl ?_ J J ?_); rotate_left; exact ai af J J J J) | refine aj af 3 J J J J J J J J J J J J ?_)
      refine ce af 1 J J J J J J J J J (show gQ _ (0 + i * 15 + 8) _ = _ from by rw [Nat.zero_add]; exact bS bj (qv) i 8 (u) ({ u with q := { u.q with bk := aZ } }) _ hu rfl) J J ?_
      repeat' (((refine' ak rfl ?_ J J ?_); rotate_left; exact ai af J J J J))
      refine ce af 1 J J J J J J J J J (show gQ _ (0 + i * 15 + 9) _ = _ from by rw [Nat.zero_add]; exact bS bj (qv.set i { u with q := { u.q with bk := aZ } }) i 9 ({ u with q := { u.q with bk := aZ } }) (mF u) _ (fQ hu _) rfl) J J ?_
      repeat' (refine ae ?_)
      (refine hJ af (fun _ => 0) J J trivial rfl fun w1 hm => ?_)
      refine ⟨(_, ⟨ct c i code now, pb, pbc, some ⟨gx, 0, none⟩, xc, qv.set i (mF u)⟩), ⟨rfl, rfl, rfl, by rw [hs, hmap, hq], hEQ, List.length_set⟩, rfl, ?_⟩
      rw [hs]
      rw [List.set_set, oH] at hm
      unfold EM CC
      simp only [List.length_set, eg]
      exact (hm.perm (List.Perm.swap _ _ _)).mask [true, true, false] rfl
def qU (code : Int) (u : QV) : QV := { u with q := { u.q with dn := true, cd := code, tx := aZ } }
set_option maxRecDepth 100000 in
set_option maxHeartbeats 8000000 in
theorem oJ {w0 : World} {M : List Ent} (g gx xc : Nat) (b : Option Addr) (bc : Nat) (c : CL) (qv : List QV) (i : Nat) (u : QV) (hu : qv[i]? = some u) (code now : Int) (w : World) (hq : c.qs = qv.map (·.q)) (hbo : ∀ b ∈ c.bs, dK b = true) (hbl : c.bs.length ≤ 2513169434916) (hM : Mem w0 w (.own (some ⟨gx, 0, none⟩) xc 50 15 qv.length ((qv).flatMap QC) :: .own b bc 64 6 c.bs.length ((c.bs).flatMap bC) :: .cl g 32 [.slice b c.bs.length bc, .int .i64 c.ra, .int .i64 c.rb, .int .i64 c.rc, .int .i64 c.rk, .int .i64 c.tk, .int .i64 c.mo, .int .i64 c.gn, .slice (some ⟨gx, 0, none⟩) qv.length xc, .int .i64 c.nx] :: M)) : Calls Tryz.prog 60 #[.pointer (some ⟨g, 0, none⟩), .int .i64 ((i : Nat) : Int), .int .i64 code, .int .i64 now] w fun e w' => ∃ s : Value × CV, (s.2.c = dE c i code now ∧ s.2.x = some ⟨gx, 0, none⟩ ∧ s.2.xc = xc ∧ s.2.qv.map (·.q) = s.2.c.qs ∧ s.2.qv.flatMap EQ = qv.flatMap EQ ∧ s.2.qv.length = qv.length) ∧ e = .returned s.1 ∧ Mem w0 w' (EM g s.2 ++ M) := by
  refine iv hM Tryz.func60 rfl Tryz.ntmps60 J J ?_
  repeat' (first | refine ag ?_ | refine aa ?_ | ((refine' ak rfl ?_ J J ?_); rotate_left; exact ai af J J J J))
  refine bX (σ := Value × CV) (fun s => s.2.c = ct c i code now ∧ s.2.x = some ⟨gx, 0, none⟩ ∧ s.2.xc = xc ∧ s.2.qv.map (·.q) = s.2.c.qs ∧ s.2.qv.flatMap EQ = qv.flatMap EQ ∧ s.2.qv.length = qv.length) (fun s => s.1) (fun s => EM g s.2 ++ M) rfl (ay J J J J ⟨J, J, J, J, trivial⟩ rfl (by kernel_rfl)) (fun w hM => oI g gx xc b bc c qv i u hu code now w hq hbo hbl hM) J J ?_
  rintro ⟨r, ⟨c1, b1, bc1, x1, xc1, qv1⟩⟩ ⟨h1, h2, h3, h4, h5, h6⟩
  dsimp only at h1 h2 h3 h4 h5 h6
  subst h2 h3
  dsimp only [EM, List.cons_append, List.nil_append]
  have hi : i < qv1.length := by rw [h6]; exact (List.getElem?_eq_some_iff.1 hu).1
  obtain ⟨u1, hu1⟩ : ∃ u1, qv1[i]? = some u1 := ⟨_, List.getElem?_eq_getElem hi⟩
  have hs : dE c i code now = { c1 with qs := c1.qs.modify i (fun q => { q with dn := true, cd := code, tx := aZ }) } := by unfold dE; rw [← h1]; rfl
  have hmap := gF hu1 (qU code) (fun q => { q with dn := true, cd := code, tx := aZ }) rfl
  have hEQ := j1 hu1 (u' := qU code u1) rfl
  repeat' (first | refine ab ?_ | refine ae ?_)
  refine fw [false] aK (by kernel_rfl) ?_
  iterate 14 (((refine' lX J J ?_ J J ?_); rotate_left; first | exact bA af (m := 15) i J J J J J J J J (fun _ => rfl) (fun _ => hi) | exact ai af J J J J | exact ah af 1 J J J J J | exact aC af J J ⟨J, trivial⟩ J J J))
  refine iD af 0 J J J J J J J J J (show gQ _ (0 + i * 15 + 12) [.bool true] = _ from by rw [Nat.zero_add]; exact bS bj (qv1) i 12 (u1) ({ u1 with q := { u1.q with dn := true } }) [.bool true] hu1 rfl) J J (by intro _ h; exact Mem.mask [false] h rfl) ?_
  iterate 2 (((refine' lX J J ?_ J J ?_); rotate_left; first | exact bA af (m := 15) i J J J J J J J J (fun _ => rfl) (fun _ => hi) | exact ai af J J J J))
  refine iD af 0 J J J J J J J J J (show gQ _ (0 + i * 15 + 13) [.int .i64 code, .string ⟨#[]⟩] = _ from by rw [Nat.zero_add]; exact bS bj (qv1.set i { u1 with q := { u1.q with dn := true } }) i 13 ({ u1 with q := { u1.q with dn := true } }) (qU code u1) [.int .i64 code, .string ⟨#[]⟩] (fQ hu1 _) rfl) J J (by intro _ h; exact Mem.mask [false] h rfl) ?_
  refine lp ?_
  skip
  (refine hJ af (fun _ => 0) J J trivial rfl fun w1 hm => ?_)
  refine ⟨(_, ⟨dE c i code now, b1, bc1, some ⟨gx, 0, none⟩, xc1, qv1.set i (qU code u1)⟩), ⟨rfl, rfl, rfl, by rw [hs, hmap, h4], by rw [hEQ, h5], by rw [List.length_set, h6]⟩, rfl, ?_⟩
  rw [hs]
  rw [List.set_set] at hm
  simp only [CC, List.length_set]
  exact hm
end Go.Proofs.YtmdkfbmpenohiaaGreatDoor.Y
namespace Go.Proofs.YtmdkfbmpenohiaaGreatDoor.Y
open Go.RowKit
theorem zr (a b c k t m gn n code : Int) (safe : Bool) (r : Bool) (h : nu a b c k t m gn n code safe = r) (w : World) : Calls Tryz.prog 92 #[.agg #[.int .i64 a, .int .i64 b, .int .i64 c, .int .i64 k], .agg #[.int .i64 t, .int .i64 m, .int .i64 gn], .int .i64 n, .int .i64 code, .bool safe] w fun e w' => e = .returned (.bool r) ∧ Below w.heap.size w w' := by subst h; exact vo a b c k t m gn n code safe w
theorem yx (a b c k n r : Int) (hn : n ≤ 9223372036854775807) (h : lf a b c k n = r) (w : World) : Calls Tryz.prog 94 #[.agg #[.int .i64 a, .int .i64 b, .int .i64 c, .int .i64 k], .int .i64 n] w fun e w' => e = .returned (.int .i64 r) ∧ Below w.heap.size w w' := by subst h; exact tn a b c k n w hn
theorem zs (a b r : Int) (h : lV a b = r) (w : World) : Calls Tryz.prog 93 #[.int .i64 a, .int .i64 b] w fun e w' => e = .returned (.int .i64 r) ∧ Below w.heap.size w w' := by subst h; exact rO a b w
def jv (c : CL) (q : QR) (now code : Int) (safe : Bool) : Int × Int := if rJ c q.att code safe = true ∧ q.an.length = 0 then (if 1 ≤ q.late ∧ q.late ≤ en c q now then (0, c.tk) else (en c q now, nk c.tk c.mo c.gn)) else (0, c.tk)
theorem vH {c : CL} {q : QR} {now code : Int} {safe : Bool} (h : fv c q now code safe = true) : jv c q now code safe = (en c q now, nk c.tk c.mo c.gn) := by
  unfold fv at h
  simp only [Bool.and_eq_true, decide_eq_true_eq, Bool.not_eq_true', Bool.and_eq_false_iff, decide_eq_false_iff_not] at h
  unfold jv
  rw [if_pos ⟨h.1.1.1, h.1.1.2⟩, if_neg (by intro h2; rcases h.1.2 with h3 | h3 <;> omega)]
theorem j2 {a b c a' b' c' : Value} (h1 : a = a') (h2 : b = b') (h3 : c = c') : Ending.returned (.tuple #[a, b, c]) = Ending.returned (.tuple #[a', b', c']) := by rw [h1, h2, h3]
set_option maxRecDepth 100000 in
set_option maxHeartbeats 8000000 in
theorem vI (v : CV) (u : QV) (now code : Int) (safe : Bool) (w : World) (hat : u.q.att ≤ 9223372036854775807) : Calls Tryz.prog 57 #[.agg #[.slice v.b v.c.bs.length v.bc, .int .i64 v.c.ra, .int .i64 v.c.rb, .int .i64 v.c.rc, .int .i64 v.c.rk, .int .i64 v.c.tk, .int .i64 v.c.mo, .int .i64 v.c.gn, .slice v.x v.qv.length v.xc, .int .i64 v.c.nx], .agg #[.int .i64 u.q.id, .string u.q.sv, .string u.q.mt, .int .i64 u.q.late, .slice u.m u.q.ms.length u.mc, .int .i64 u.q.sh, .slice u.s u.q.mg.length u.sc, .int .i64 u.q.att, .string u.q.bk, .int .i64 u.q.st, .int .i64 u.q.nx, .slice u.a u.q.an.length u.ac, .bool u.q.dn, .int .i64 u.q.cd, .string u.q.tx], .int .i64 now, .int .i64 code, .bool safe] w fun e w' => e = .returned (.tuple #[.int .i64 (jv v.c u.q now code safe).1, .agg #[.int .i64 (jv v.c u.q now code safe).2, .int .i64 v.c.mo, .int .i64 v.c.gn], .bool (fv v.c u.q now code safe)]) ∧ Below w.heap.size w w' := by
  obtain ⟨b1, h1⟩ : ∃ b, nu v.c.ra v.c.rb v.c.rc v.c.rk v.c.tk v.c.mo v.c.gn u.q.att code safe = b := ⟨_, rfl⟩
  obtain ⟨p1, h2⟩ : ∃ p, lf v.c.ra v.c.rb v.c.rc v.c.rk u.q.att = p := ⟨_, rfl⟩
  obtain ⟨a1, h3⟩ : ∃ p, lV now p1 = p := ⟨_, rfl⟩
  have hok : fv v.c u.q now code safe = (b1 && decide (u.q.an.length = 0) && !(decide (1 ≤ u.q.late) && decide (u.q.late ≤ a1)) && decide (iI v.c.tk v.c.mo v.c.gn = 0)) := by
    unfold fv en; rw [lv, h1, h2, h3]
  have hag : en v.c u.q now = a1 := by unfold en; rw [h2, h3]
  refine aD Tryz.func57 rfl Tryz.ntmps57 J J ?_
  refine ag ?_
  refine aa ?_
  (refine aT J J J J J J ?_; intro g5)
  (refine aT J J J J J J ?_; intro g6)
  ((refine' ak rfl ?_ J J ?_); rotate_left; exact ai af J J J J)
  (refine aF af J J J J J J ?_; intro g11)
  repeat' (first | refine ag ?_ | refine aa ?_ | refine ab ?_ | refine ae ?_ | ((refine' ak rfl ?_ J J ?_); rotate_left; first | exact ai af J J J J | exact aq af J J J J J J | exact bp J J J J J | exact ah af 1 J J J J J | exact ah af 2 J J J J J | exact aO af J J J J J J J) | refine aG rfl (ay J J J J ⟨J, J, J, J, J, trivial⟩ rfl (by kernel_rfl)) (fun w hm => zr _ _ _ _ _ _ _ _ _ _ b1 h1 w) J J ?_)
  by_cases hA : b1 = true ∧ u.q.an.length = 0
  · obtain ⟨rfl, hA2⟩ := hA
    refine am rfl (by simp [hA2]) ?_
    repeat' (first | refine ag ?_ | refine aa ?_ | refine ab ?_ | refine au ?_ | refine ae ?_ | ((refine' ak rfl ?_ J J ?_); rotate_left; first | exact ai af J J J J | exact aq af J J J J J J | exact bx J J J J J | exact ah af 1 J J J J J | exact ah af 2 J J J J J) | refine aG rfl (ay J J J J ⟨J, J, trivial⟩ rfl (by kernel_rfl)) (fun w hm => yx _ _ _ _ _ p1 hat h2 w) J J ?_ | refine aG rfl (ay J J J J ⟨J, J, trivial⟩ rfl (by kernel_rfl)) (fun w hm => zs _ _ a1 h3 w) J J ?_)
    by_cases hB : 1 ≤ u.q.late ∧ u.q.late ≤ a1
    · refine aw rfl (by simp; omega) ?_
      repeat' (first | refine ag ?_ | refine ab ?_ | refine aA ?_ | refine ar ?_ | refine aY aK rfl (by kernel_rfl) ?_ | refine ae ?_ | refine bz ?_ | ((first | refine' ak rfl ?_ J J ?_ | refine' dm rfl ?_ J J J ?_); rotate_left; first | exact ai af J J J J | exact ah af 2 J J J J J) | refine aj af 0 J J J J J J J J J J J J ?_)
      (refine aB af (fun _ => 0) J J ⟨J, trivial⟩ rfl fun w1 hm => ⟨?_, hm.below⟩)
      have hR : jv v.c u.q now code safe = (0, v.c.tk) := by unfold jv; rw [lv, h1, if_pos ⟨rfl, hA2⟩, hag, if_pos hB]
      rw [hR]
      refine j2 J J ?_
      rw [hok]; simp [hB.1, hB.2]
    · refine am rfl (by simp; omega) ?_
      repeat' (first | refine ag ?_ | refine aa ?_ | refine ab ?_ | refine au ?_ | refine ae ?_ | (refine aF af J J J J J J ?_; intro g14) | ((refine' ak rfl ?_ J J ?_); rotate_left; first | exact ai af J J J J | exact ah af 2 J J J J J) | refine aG rfl (ay J J J J ⟨J, trivial⟩ rfl (by kernel_rfl)) (fun w hm => uO _ _ _ w) J J ?_ | refine aj af 0 J J J J J J J J J J J J ?_)
      refine fw [true, false] aK (by kernel_rfl) ?_
      iterate 5 (((refine' lX J J ?_ J J ?_); rotate_left; first | exact ai af J J J J | exact aq af J J J J J J | exact ah af 0 J J J J J))
      refine lr af 1 J J J J J J J J J J J J (by intro _ h; exact Mem.mask [true, false] h rfl) ?_
      ((refine' lX J J ?_ J J ?_); rotate_left; exact ai af J J J J)
      refine lp ?_
      repeat' (first | refine ab ?_ | refine aA ?_)
      (refine aB af (fun _ => 1) J J ⟨J, trivial⟩ rfl fun w1 hm => ⟨?_, hm.below⟩)
      have hR : jv v.c u.q now code safe = (a1, nk v.c.tk v.c.mo v.c.gn) := by unfold jv; rw [lv, h1, if_pos ⟨rfl, hA2⟩, hag, if_neg hB]
      rw [hR]
      refine j2 J J ?_
      rw [hok]
      have hB' : (decide (1 ≤ u.q.late) && decide (u.q.late ≤ a1)) = false := by simp; omega
      rw [hB']
      simp [hA2, Bool.beq_eq_decide_eq]
  · refine aw rfl (by
      cases b1 with
      | false => rfl
      | true =>
        have h0 : ¬ u.q.an.length = 0 := fun e => hA ⟨rfl, e⟩
        simp only [Bool.not_true, Bool.false_or, decide_eq_true_eq]
        omega) ?_
    have hk : fv v.c u.q now code safe = false := by
      rw [hok]
      cases b1 with
      | false => rfl
      | true =>
        have h0 : ¬ u.q.an.length = 0 := fun e => hA ⟨rfl, e⟩
        simp [h0]
    repeat' (first | refine ag ?_ | refine ab ?_ | refine aA ?_ | refine ar ?_ | refine aY aK rfl (by kernel_rfl) ?_ | refine ae ?_ | refine bz ?_ | ((first | refine' ak rfl ?_ J J ?_ | refine' dm rfl ?_ J J J ?_); rotate_left; first | exact ai af J J J J | exact ah af 2 J J J J J) | refine aj af 0 J J J J J J J J J J J J ?_)
    (refine aB af (fun _ => 0) J J ⟨J, trivial⟩ rfl fun w1 hm => ⟨?_, hm.below⟩)
    have hR : jv v.c u.q now code safe = (0, v.c.tk) := by unfold jv; rw [lv, h1, if_neg hA]
    rw [hR]
    refine j2 J J ?_
    rw [hk]
end Go.Proofs.YtmdkfbmpenohiaaGreatDoor.Y
namespace Go.Proofs.YtmdkfbmpenohiaaGreatDoor.Y
open Go.RowKit
theorem nC {P : Program} {l0 l : List Oper} {Q : Exit → Act → World → Prop} {n : Nat} {w0 : World} {S : bM} {M : List Ent} (i : Nat) {a : Option Addr} {cap : Nat} {e : TypeId} {size k : Nat} {xs : List Value} (hi : dY M i = some (.own a cap e size k xs)) (hk : 0 < k) (h : ∀ g, a = some ⟨g, 0, none⟩ → SL P l0 Q l n w0 S M) : SL P l0 Q l n w0 S M :=
  ⟨fun a w h1 h2 => by
    obtain ⟨g, hg⟩ := n8 (h2.2.get hi) hk
    exact (h g hg).run a w h1 h2⟩
theorem tQ {A : Nat → Prop} (v : CV) (id e : Int) (k : Nat) (w : World) (hC : COk A w v) (hzq : v.qv.length ≤ 703687441776) (he : el v.c id = e) (hk : dZ v.c id = k) : Calls Tryz.prog 54 #[.agg ⟨[.slice v.b v.c.bs.length v.bc, .int .i64 v.c.ra, .int .i64 v.c.rb, .int .i64 v.c.rc, .int .i64 v.c.rk, .int .i64 v.c.tk, .int .i64 v.c.mo, .int .i64 v.c.gn, .slice v.x v.qv.length v.xc, .int .i64 v.c.nx]⟩, .int .i64 id] w fun r w' => r = .returned (.tuple ⟨[.int .i64 ((k : Nat) : Int), .int .i64 e]⟩) ∧ Below w.heap.size w w' := by subst he hk; exact vy v id w hC hzq
theorem j3 {c : CL} {id : Int} (h : el c id = 0) : ∃ q, c.qs[dZ c id]? = some q ∧ q.bk.size ≠ 0 := by
  cases hf : dh id c.qs 0 with
  | none => rw [(fa hf).1] at h; cases h
  | some k =>
    obtain ⟨q, hq, _⟩ := ej hf
    obtain ⟨h1, h2⟩ := jX hf hq
    rw [h1] at h
    by_cases hb : q.bk.size = 0
    · rw [if_pos hb] at h; cases h
    · rw [h2, if_neg hb]; exact ⟨q, hq, hb⟩
theorem yz (c e : Int) (s : ByteArray) (w : World) (hs : s.size ≤ 4611686018427387900) (he : be c s = e) : Calls Tryz.prog 55 #[.agg #[.int .i64 c, .string s]] w fun r w' => r = .returned (.int .i64 e) ∧ Below w.heap.size w w' := by subst he; exact rH c s w hs
def vJ (d : CL) (k : Nat) (now code : Int) (tx : ByteArray) (safe : Bool) : CL × Int :=
  if fv d (i9 d k) (bI now) code safe = true then (bZ { d with tk := nk d.tk d.mo d.gn } k (fun q => { q with nx := en d q (bI now) }), 0) else (bZ d k (fun q => { q with dn := true, cd := code, tx := tx }), 0)
theorem p3 (a b c : Ent) (R : List Ent) : (a :: b :: c :: R).Perm (b :: c :: a :: R) := (List.Perm.swap b a (c :: R)).trans (List.Perm.cons b (List.Perm.swap c a R))
theorem zt (v : CV) (u : QV) (now code : Int) (safe b : Bool) (x t : Int) (w : World) (hat : u.q.att ≤ 9223372036854775807) (hb : fv v.c u.q now code safe = b) (hx : (jv v.c u.q now code safe).1 = x) (ht : (jv v.c u.q now code safe).2 = t) : Calls Tryz.prog 57 #[.agg ⟨CC v⟩, .agg ⟨QC u⟩, .int .i64 now, .int .i64 code, .bool safe] w fun e w' => e = .returned (.tuple ⟨[.int .i64 x, .agg ⟨[.int .i64 t, .int .i64 v.c.mo, .int .i64 v.c.gn]⟩, .bool b]⟩) ∧ Below w.heap.size w w' := by subst hb hx ht; exact vI v u now code safe w hat
theorem tR {c : CL} {i : Nat} {code now : Int} : (i9 (ct c i code now) i).att = (i9 c i).att := by
  unfold ct
  dsimp only
  split
  · rfl
  · unfold i9 bZ
    simp only [List.getD_eq_getElem?_getD, List.getElem?_modify]
    cases c.qs[i]? <;> simp
set_option maxRecDepth 100000 in
set_option maxHeartbeats 8000000 in
theorem mG {A : Nat → Prop} (v : CV) (now id code : Int) (tx : ByteArray) (safe : Bool) (w : World) (hC : COk A w v) (hzq : v.qv.length ≤ 703687441776) (hzb : v.c.bs.length ≤ 2513169434916) (hz : ∀ u ∈ v.qv, eP u.q) (hbo : ∀ b ∈ v.c.bs, dK b = true) (htx : tx.size ≤ 4611686018427387900) (hatt : ∀ q ∈ v.c.qs, q.att ≤ 9223372036854775807) : Calls Tryz.prog 27 #[.agg #[.slice v.b v.c.bs.length v.bc, .int .i64 v.c.ra, .int .i64 v.c.rb, .int .i64 v.c.rc, .int .i64 v.c.rk, .int .i64 v.c.tk, .int .i64 v.c.mo, .int .i64 v.c.gn, .slice v.x v.qv.length v.xc, .int .i64 v.c.nx], .int .i64 now, .int .i64 id, .agg #[.int .i64 code, .string tx], .bool safe] w fun e w' => ∃ v' : CV, v'.c = (de v.c now id code tx safe).1 ∧ e = .returned (.tuple #[.agg ⟨CC v'⟩, .int .i64 (de v.c now id code tx safe).2]) ∧ Out A w w' v' := by
  obtain ⟨er, her⟩ : ∃ e, el v.c id = e := ⟨_, rfl⟩
  obtain ⟨k, hkr⟩ : ∃ k, dZ v.c id = k := ⟨_, rfl⟩
  obtain ⟨es, hes⟩ : ∃ e, be code tx = e := ⟨_, rfl⟩
  refine aD Tryz.func27 rfl Tryz.ntmps27 J J ?_
  refine ag ?_
  refine aa ?_
  (refine aT J J J J J J ?_; intro g5)
  (refine aT J J J J J J ?_; intro g8)
  (refine aF af J J J J J J ?_; intro g10)
  repeat' (first | refine ag ?_ | refine aa ?_ | refine ab ?_ | refine ae ?_ | ((refine' ak rfl ?_ J J ?_); rotate_left; first | exact ai af J J J J | exact aq af J J J J J J | exact ah af 2 J J J J J) | refine aG rfl (ay J J J J ⟨J, J, trivial⟩ rfl (by kernel_rfl)) (fun w hm => (tQ v id er k w (hC.below hm.below) hzq her hkr)) J J ?_)
  by_cases he0 : er = 0
  · subst he0
    refine am J J ?_
    repeat' (first | refine ag ?_ | refine aa ?_ | refine ab ?_ | refine au ?_ | refine ae ?_ | ((refine' ak rfl ?_ J J ?_); rotate_left; first | exact ai af J J J J | exact aq af J J J J J J | exact ah af 1 J J J J J) | refine aG rfl (ay J J J J ⟨J, trivial⟩ rfl (by kernel_rfl)) (fun w hm => yz code es tx w htx hes) J J ?_)
    by_cases hs0 : es = 0
    · subst hs0
      refine am J J ?_
      obtain ⟨q0, hq0, hqb⟩ := j3 her
      rw [hkr] at hq0
      have hen : de v.c now id code tx safe = vJ (ct v.c k code (bI now)) k now code tx safe := by
        unfold de; rw [her, if_neg (by decide), hes, if_neg (by decide), hkr]; rfl
      repeat' (first | refine ag ?_ | refine aa ?_ | refine ab ?_ | refine au ?_ | refine ae ?_ | ((refine' ak rfl ?_ J J ?_); rotate_left; first | exact ai af J J J J | exact ah af 2 J J J J J) | refine aG rfl (ay J J J J ⟨J, trivial⟩ rfl (by kernel_rfl)) (fun w hm => gl now w) J J ?_)
      refine bf (σ := CV) (fun s => s.c = v.c ∧ s.qv.map (·.q) = v.qv.map (·.q)) (fun s => .agg ⟨CC s⟩) EC rfl (ay J J J J ⟨J, trivial⟩ rfl (by kernel_rfl)) (fun w1 hm => dR v w1 (hC.below hm.below) hzb (by omega) hz) J J ?_
      rintro ⟨c1, b1, bc1, x1, xc1, qv1⟩ ⟨hc1, hq1⟩
      dsimp only at hc1 hq1
      subst hc1
      have hln := eW hq1
      refine dN (fun w hM => hM.perm (qf [_, _] _ _)) ?_
      dsimp only [List.cons_append, List.nil_append]
      have hk1 : k < qv1.length := by rw [hln, ← hC.lenq]; exact (List.getElem?_eq_some_iff.1 hq0).1
      obtain ⟨u1, hu1⟩ : ∃ u, qv1[k]? = some u := ⟨_, List.getElem?_eq_getElem hk1⟩
      have hqm : v.c.qs = qv1.map (·.q) := by rw [hC.eq, hq1]
      refine nC 0 rfl (by show 0 < qv1.length; omega) ?_
      rintro gx hx1
      subst hx1
      repeat' (first | refine ag ?_ | refine aa ?_ | refine ab ?_ | refine ae ?_ | (refine aF af J J J J J J ?_; intro g15) | ((refine' ak rfl ?_ J J ?_); rotate_left; first | exact ai af J J J J | exact ah af 4 J J J J J) | refine aj af 0 J J J J J J J J J J J J ?_)
      refine dN (fun w hM => hM.perm (p3 _ _ _ _)) ?_
      refine bX (σ := Value × CV) (fun s => s.2.c = ct v.c k code (bI now) ∧ s.2.x = some ⟨gx, 0, none⟩ ∧ s.2.xc = xc1 ∧ s.2.qv.map (·.q) = s.2.c.qs ∧ s.2.qv.flatMap EQ = qv1.flatMap EQ ∧ s.2.qv.length = qv1.length) (fun s => s.1) (fun s => EM g15 s.2 ++ _) rfl (ay J J J J ⟨J, J, J, J, trivial⟩ rfl (by kernel_rfl)) (fun w hM => oI g15 gx xc1 b1 bc1 v.c qv1 k u1 hu1 code (bI now) w hqm hbo hzb hM) J J ?_
      rintro ⟨r, ⟨c2, b2, bc2, x2, xc2, qv2⟩⟩ ⟨h1, h2, h3, h4, h5, h6⟩
      dsimp only at h1 h2 h3 h4 h5 h6
      subst h2 h3
      rw [← h1] at hen
      have hk2 : k < qv2.length := by omega
      obtain ⟨u2, hu2⟩ : ∃ u, qv2[k]? = some u := ⟨_, List.getElem?_eq_getElem hk2⟩
      have hat2 : i9 c2 k = u2.q := eQ h4.symm hu2
      have hqa : u2.q.att ≤ 9223372036854775807 := by
        have h9 : (i9 c2 k).att = (i9 v.c k).att := by rw [h1]; exact tR
        rw [hat2] at h9
        rw [h9, eQ hqm hu1]
        exact hatt _ (by rw [hqm]; exact List.mem_map_of_mem (List.mem_of_getElem? hu1))
      unfold vJ at hen
      rw [hat2] at hen
      obtain ⟨bO, hbO⟩ : ∃ b, fv c2 u2.q (bI now) code safe = b := ⟨_, rfl⟩
      obtain ⟨x, hx⟩ : ∃ x, (jv c2 u2.q (bI now) code safe).1 = x := ⟨_, rfl⟩
      obtain ⟨t, ht⟩ : ∃ t, (jv c2 u2.q (bI now) code safe).2 = t := ⟨_, rfl⟩
      rw [hbO] at hen
      repeat' (first | refine ag ?_ | refine aa ?_ | refine ab ?_ | refine aY aK rfl (by kernel_rfl) ?_ | refine ae ?_ | (refine ea ?_; intro g) | ((first | refine' ak rfl ?_ J J ?_ | refine' dm rfl ?_ J J J ?_); rotate_left; first | exact bA af (m := 15) k J J J J J J J J (fun _ => rfl) (fun _ => hk2) | exact iu af 0 (cs := QC u2) J J J J J J (fun _ j c hc => by rw [Nat.zero_add]; exact br bj hu2 hc) | exact ai af J J J J | exact ah af 2 J J J J J | exact ah af 4 J J J J J) | refine bY rfl (ay J J J J ⟨J, J, J, J, J, trivial⟩ rfl (by kernel_rfl)) rfl (fun w hm => zt ⟨c2, b2, bc2, some ⟨gx, 0, none⟩, xc2, qv2⟩ u2 (bI now) code safe bO x t w hqa hbO hx ht) J J ?_ | refine dJ af J J J J J J ?_ | refine aj af 0 J J J J J J J J J J J J ?_)
      cases bO with
      | true =>
        rw [if_pos rfl] at hen
        have hR := vH hbO
        rw [hR] at hx ht
        dsimp only at hx ht
        rw [ht] at hen
        refine aw J J ?_
        repeat' (first | refine aa ?_ | ((refine' ak rfl ?_ J J ?_); rotate_left; first | exact ai af J J J J | exact ah af 0 J J J J J) | refine aj af 3 J J J J J J J J J J J J ?_)
        refine ce af 1 J J J J J J J J J (show gQ _ (0 + k * 15 + 10) _ = _ from by rw [Nat.zero_add]; exact bS bj (qv2) k 10 (u2) ({ u2 with q := { u2.q with nx := x } }) _ hu2 rfl) J J ?_
        repeat' (first | refine ag ?_ | refine aa ?_ | refine ab ?_ | refine aA ?_ | refine ae ?_ | ((refine' ak rfl ?_ J J ?_); rotate_left; first | exact ai af J J J J | exact ah af 3 J J J J J) | refine aj af 4 J J J J J J J J J J J J ?_)
        (refine aB af (fun _ => 4) J J ⟨J, trivial⟩ rfl fun w1 hm => ⟨⟨(de v.c now id code tx safe).1, b2, bc2, some ⟨gx, 0, none⟩, xc2, qv2.set k ({ u2 with q := { u2.q with nx := x } })⟩, rfl, ?_, ?_⟩)
        · rw [hen]; simp [CC, bZ]
        · refine Out.made ?_ (by rw [hen]; simp only [bZ]; rw [← h4]; exact (gF hu2 (fun _ => { u2 with q := { u2.q with nx := x } }) _ (by rw [← hx])).symm)
          rw [hen]
          have h9 := hm.mask [false, true, true, false, false, false, false] rfl
          simp only [EC, bZ, List.length_set]
          rw [j1 hu2 (u' := { u2 with q := { u2.q with nx := x } }) rfl, h5]
          exact h9
      | false =>
        rw [if_neg (by decide)] at hen
        refine am J J ?_
        skip
        refine fw [true, false] aK (by kernel_rfl) ?_
        iterate 5 (((refine' lX J J ?_ J J ?_); rotate_left; first | exact ai af J J J J | exact ah af 4 J J J J J))
        refine iD af 1 J J J J J J J J J (show gQ _ (0 + k * 15 + 12) [.bool true] = _ from by rw [Nat.zero_add]; exact bS bj (qv2) k 12 (u2) ({ u2 with q := { u2.q with dn := true } }) [.bool true] hu2 rfl) J J (by intro _ h; exact Mem.mask [true, false] h rfl) ?_
        iterate 2 (((refine' lX J J ?_ J J ?_); rotate_left; exact ai af J J J J))
        refine iD af 1 J J J J J J J J J (show gQ _ (0 + k * 15 + 13) [.int .i64 code, .string tx] = _ from by rw [Nat.zero_add]; exact bS bj (qv2.set k { u2 with q := { u2.q with dn := true } }) k 13 ({ u2 with q := { u2.q with dn := true } }) ({ u2 with q := { u2.q with dn := true, cd := code, tx := tx } }) [.int .i64 code, .string tx] (fQ hu2 _) rfl) J J (by intro _ h; exact Mem.mask [true, false] h rfl) ?_
        refine lp ?_
        repeat' (first | refine ag ?_ | refine aa ?_ | refine ab ?_ | refine aA ?_ | refine ae ?_ | ((refine' ak rfl ?_ J J ?_); rotate_left; first | exact ai af J J J J | exact ah af 3 J J J J J) | refine aj af 4 J J J J J J J J J J J J ?_)
        (refine aB af (fun _ => 4) J J ⟨J, trivial⟩ rfl fun w1 hm => ⟨⟨(de v.c now id code tx safe).1, b2, bc2, some ⟨gx, 0, none⟩, xc2, qv2.set k ({ u2 with q := { u2.q with dn := true, cd := code, tx := tx } })⟩, rfl, ?_, ?_⟩)
        · rw [hen]; simp [CC, bZ]
        · refine Out.made ?_ (by rw [hen]; simp only [bZ]; rw [← h4]; exact (gF hu2 (fun _ => { u2 with q := { u2.q with dn := true, cd := code, tx := tx } }) _ rfl).symm)
          rw [hen]
          rw [List.set_set] at hm
          have h9 := hm.mask [false, true, true, false, false, false, false] rfl
          simp only [EC, bZ, List.length_set]
          rw [j1 hu2 (u' := { u2 with q := { u2.q with dn := true, cd := code, tx := tx } }) rfl, h5]
          exact h9
    · refine aw rfl (by simpa using hs0) ?_
      have hen : de v.c now id code tx safe = (v.c, es) := by unfold de; rw [her, if_neg (by decide), hes, if_pos hs0]
      repeat' (first | refine ag ?_ | refine aa ?_ | refine ab ?_ | refine aA ?_ | refine ar ?_ | refine ae ?_ | ((refine' ak rfl ?_ J J ?_); rotate_left; first | exact ai af J J J J | exact ah af 2 J J J J J) | refine aj af 0 J J J J J J J J J J J J ?_)
      (refine aB af (fun _ => 0) J J ⟨J, trivial⟩ rfl fun w1 hm => ⟨v, ?_, ?_, Out.same hC hm.below⟩)
      · rw [hen]
      · rw [hen]; rfl
  · refine aw rfl (by simpa using he0) ?_
    have hen : de v.c now id code tx safe = (v.c, er) := by unfold de; rw [her, if_pos he0]
    repeat' (first | refine ag ?_ | refine aa ?_ | refine ab ?_ | refine aA ?_ | refine ar ?_ | refine ae ?_ | ((refine' ak rfl ?_ J J ?_); rotate_left; first | exact ai af J J J J | exact ah af 2 J J J J J) | refine aj af 0 J J J J J J J J J J J J ?_)
    (refine aB af (fun _ => 0) J J ⟨J, trivial⟩ rfl fun w1 hm => ⟨v, ?_, ?_, Out.same hC hm.below⟩)
    · rw [hen]
    · rw [hen]; rfl
end Go.Proofs.YtmdkfbmpenohiaaGreatDoor.Y
