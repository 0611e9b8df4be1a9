/- Texts of this claim merged into one: Cl7, Cl8, Cl9. -/
import Derived.Test.YtmdkfbmpenohiaaDoorBunC5
import Derived.Test.YtmdkfbmpenohiaaDoorRegU
/- client.stop, finish. -/
namespace Go.Proofs.YtmdkfbmpenohiaaDoor.Y
open Go.RowKit
theorem finB_at {nm : ByteArray} : ∀ {l : List BV} {i : Nat}, finB nm l 0 = some i → ∃ b, l[i]? = some b ∧ beB b.nm nm = true := by
  have key : ∀ (l : List BV) (k i : Nat), finB nm l k = some i → k ≤ i ∧ ∃ b, l[i - k]? = some b ∧ beB b.nm nm = true := by
    intro l
    induction l with
    | nil => intro k i h; cases h
    | cons a l ih =>
      intro k i h
      unfold finB at h
      split at h
      · obtain rfl := (by simpa using h : k = i)
        exact ⟨Nat.le_refl _, a, by simp, by assumption⟩
      · obtain ⟨h1, q, h2, h3⟩ := ih (k + 1) i h
        refine ⟨by omega, q, ?_, h3⟩
        rw [show i - k = i - (k + 1) + 1 by omega]; simpa using h2
  intro l i h
  obtain ⟨_, q, h2, h3⟩ := key l 0 i h
  exact ⟨q, by simpa using h2, h3⟩
theorem finBE {A : Nat → Prop} (x : Option Addr) (l : List BV) (cap : Nat) (nm : ByteArray) (o : Option Nat) (w : World) (hR : Rws A w 6 bC x l) (hlen : l.length ≤ 2513169434916) (h : finB nm l 0 = o) : Calls Tryd.prog 52 #[.slice x l.length cap, .string nm] w fun e w' => e = .returned (ixV o) ∧ Below w.heap.size w w' := by subst h; exact finB_any x l cap nm w hR hlen
theorem clk_clk (n : Int) : clk (clk n) = clk n := by unfold clk bndI; omega
theorem endB_clk (code now : Int) : endB code (clk now) = endB code now := by
  funext b
  unfold endB
  rw [clk_clk]
def stopQ (u : QV) : QV := { u with q := { u.q with bk := emptyB, st := 0 } }
theorem set_map {l : List QV} {i : Nat} {u : QV} (h : l[i]? = some u) (f : QV → QV) (f' : QR → QR) (hf : (f u).q = f' u.q) : (l.set i (f u)).map (·.q) = (l.map (·.q)).modify i f' := by
  apply List.ext_getElem?
  intro j
  rw [List.getElem?_map, List.getElem?_set, List.getElem?_modify, List.getElem?_map]
  by_cases hj : i = j
  · subst hj
    have := (List.getElem?_eq_some_iff.1 h).1
    simp [this, hf, (List.getElem?_eq_some_iff.1 h).2]
  · simp [hj]
theorem EQ_set {l : List QV} {i : Nat} {u u' : QV} (h : l[i]? = some u) (hu : EQ u' = EQ u) : (l.set i u').flatMap EQ = l.flatMap EQ := by
  obtain ⟨h1, h2⟩ := List.getElem?_eq_some_iff.1 h
  have h3 : l = l.take i ++ u :: l.drop (i + 1) := by rw [← h2, List.getElem_cons_drop, List.take_append_drop]
  rw [List.set_eq_take_append_cons_drop, if_pos h1]
  rw [List.flatMap_append, List.flatMap_cons, hu]
  conv => rhs; rw [h3, List.flatMap_append, List.flatMap_cons]
theorem atQ_eq {c : CL} {qv : List QV} {i : Nat} {u : QV} (hq : c.qs = qv.map (·.q)) (h : qv[i]? = some u) : atQ c i = u.q := by
  unfold atQ
  rw [List.getD_eq_getElem?_getD, hq, List.getElem?_map, h]; rfl
/-- the memory of a client that lies in block g. -/
def EM (g : Nat) (v : CV) : List Ent := [.own v.x v.xc 37 15 v.qv.length (v.qv.flatMap QC), .own v.b v.bc 66 6 v.c.bs.length (v.c.bs.flatMap bC), .cl g 29 (CC v)]
theorem setq_at {l : List QV} {k : Nat} {v : QV} (h : l[k]? = some v) (u : QV) : (l.set k u)[k]? = some u := by
  rw [List.getElem?_set_self]
  exact (List.getElem?_eq_some_iff.1 h).1
set_option maxRecDepth 100000 in
set_option maxHeartbeats 8000000 in
theorem stop_any {w0 : World} {M : List Ent} (g gx xc : Nat) (b : Option Addr) (bc : Nat) (c : CL) (qv : List QV) (i : Nat) (u : QV) (hu : qv[i]? = some u) (code now : Int) (w : World) (hq : c.qs = qv.map (·.q)) (hbo : ∀ b ∈ c.bs, bOk b = true) (hbl : c.bs.length ≤ 2513169434916) (hM : Mem w0 w (.own (some ⟨gx, 0, none⟩) xc 37 15 qv.length ((qv).flatMap QC) :: .own b bc 66 6 c.bs.length ((c.bs).flatMap bC) :: .cl g 29 [.slice b c.bs.length bc, .int .i64 c.ra, .int .i64 c.rb, .int .i64 c.rc, .int .i64 c.rk, .int .i64 c.tk, .int .i64 c.mo, .int .i64 c.gn, .slice (some ⟨gx, 0, none⟩) qv.length xc, .int .i64 c.nx] :: M)) : Calls Tryd.prog 37 #[.pointer (some ⟨g, 0, none⟩), .int .i64 ((i : Nat) : Int), .int .i64 code, .int .i64 now] w fun e w' => ∃ s : Value × CV, (s.2.c = stopL c i code now ∧ s.2.x = some ⟨gx, 0, none⟩ ∧ s.2.xc = xc ∧ s.2.qv.map (·.q) = s.2.c.qs ∧ s.2.qv.flatMap EQ = qv.flatMap EQ ∧ s.2.qv.length = qv.length) ∧ e = .returned s.1 ∧ Mem w0 w' (EM g s.2 ++ M) := by
  refine sx_enterM hM Tryd.func37 rfl Tryd.ntmps37 rfl rfl ?_
  have hi : i < qv.length := (List.getElem?_eq_some_iff.1 hu).1
  have hat := atQ_eq hq hu
  repeat' (first | refine sc_seq ?_ | refine sc_region ?_ | refine sq_then ?_ | refine sx_nil ?_ | ((refine' sx_v rfl ?_ rfl rfl ?_); rotate_left; first | exact vo_ixa tok (m := 15) i rfl rfl rfl rfl rfl rfl rfl rfl (fun _ => rfl) (fun _ => hi) | exact vo_ocell tok 0 (v := .string u.q.bk) rfl rfl rfl rfl rfl rfl (fun _ => by rw [Nat.zero_add]; exact flat_get QC_len hu (k := 8) rfl) | exact vo_un tok rfl rfl rfl rfl | exact vo_bin tok rfl rfl rfl rfl rfl rfl | exact vo_load tok 2 rfl rfl rfl rfl rfl))
  by_cases hb : u.q.bk.size = 0
  · refine sc_true rfl (by rw [emp_eq]; simpa using hb) ?_
    have hs : stopL c i code now = c := by unfold stopL; rw [hat]; exact if_pos hb
    repeat' (first | refine sc_ret ?_ | refine sq_pass_ret ?_)
    (refine sq_ret tok (fun _ => 0) rfl rfl trivial rfl fun w1 hm => ?_)
    exact ⟨(_, ⟨c, b, bc, some ⟨gx, 0, none⟩, xc, qv⟩), ⟨hs.symm, rfl, rfl, hq.symm, rfl, rfl⟩, rfl, hm⟩
  · refine sc_false rfl (by rw [emp_eq]; simpa using hb) ?_
    have hmap := set_map hu stopQ (fun q => { q with bk := emptyB, st := 0 }) rfl
    have hEQ := EQ_set hu (u' := stopQ u) rfl
    cases hf : finB u.q.bk c.bs 0 with
    | none =>
      have hs : stopL c i code now = { c with qs := c.qs.modify i (fun q => { q with bk := emptyB, st := 0 }) } := by
        unfold stopL; rw [hat]; simp only [if_neg hb, hf]; rfl
      repeat' (first | refine sc_seq ?_ | refine sc_region ?_ | refine sq_then ?_ | refine sc_skip ?_ | refine sc_regionD follows_any rfl (by kernel_rfl) ?_ | refine sx_nil ?_ | refine sr_nil0 ?_ | ((first | refine' sx_v rfl ?_ rfl rfl ?_ | refine' sr_v rfl ?_ rfl rfl rfl ?_); rotate_left; first | exact vo_ocell tok 0 (v := .string u.q.bk) rfl rfl rfl rfl rfl rfl (fun _ => by rw [Nat.zero_add]; exact flat_get QC_len hu (k := 8) rfl) | exact vo_un tok rfl rfl rfl rfl | exact vo_load tok 2 rfl rfl rfl rfl rfl) | refine sr_call rfl (callOp rfl rfl rfl rfl ⟨rfl, rfl, trivial⟩ rfl (by kernel_rfl)) rfl (fun w hm => finBE b c.bs bc u.q.bk none w (Rws.own bC_len (hm.2.get (i := 1) rfl)) hbl hf) rfl rfl ?_)
      refine sc_false rfl rfl ?_
      repeat' (first | refine sc_region ?_ | refine sq_then ?_ | refine sc_skip ?_ | ((refine' sx_v rfl ?_ rfl rfl ?_); rotate_left; exact vo_un tok rfl rfl rfl rfl))
      refine sx_ostore tok 0 rfl rfl rfl rfl rfl rfl rfl rfl rfl (show spl _ (0 + i * 15 + 8) _ = _ from by rw [Nat.zero_add]; exact flat_set QC_len (qv) i 8 (u) ({ u with q := { u.q with bk := emptyB } }) _ hu rfl) rfl rfl ?_
      repeat' (((refine' sx_v rfl ?_ rfl rfl ?_); rotate_left; exact vo_un tok rfl rfl rfl rfl))
      refine sx_ostore tok 0 rfl rfl rfl rfl rfl rfl rfl rfl rfl (show spl _ (0 + i * 15 + 9) _ = _ from by rw [Nat.zero_add]; exact flat_set QC_len (qv.set i { u with q := { u.q with bk := emptyB } }) i 9 ({ u with q := { u.q with bk := emptyB } }) (stopQ u) _ (setq_at hu _) rfl) rfl rfl ?_
      repeat' (refine sx_nil ?_)
      (refine sq_end tok (fun _ => 0) rfl rfl trivial rfl fun w1 hm => ?_)
      refine ⟨(_, ⟨stopL c i code now, b, bc, some ⟨gx, 0, none⟩, xc, qv.set i (stopQ u)⟩), ⟨rfl, rfl, rfl, by rw [hs, hmap, hq], hEQ, List.length_set⟩, rfl, ?_⟩
      rw [hs]
      rw [List.set_set] at hm
      unfold EM CC
      simp only [List.length_set]
      exact hm
    | some k =>
      obtain ⟨bv, hbv, _⟩ := finB_at hf
      have hbk := hbo bv (List.mem_of_getElem? hbv)
      have hs : stopL c i code now = { c with bs := modB (endB code now) c.bs k, qs := c.qs.modify i (fun q => { q with bk := emptyB, st := 0 }) } := by
        unfold stopL; rw [hat]; simp only [if_neg hb, hf]; rfl
      repeat' (first | refine sc_seq ?_ | refine sc_region ?_ | refine sq_then ?_ | refine sc_skip ?_ | refine sc_regionD follows_any rfl (by kernel_rfl) ?_ | refine sx_nil ?_ | refine sr_nil0 ?_ | ((first | refine' sx_v rfl ?_ rfl rfl ?_ | refine' sr_v rfl ?_ rfl rfl rfl ?_); rotate_left; first | exact vo_ocell tok 0 (v := .string u.q.bk) rfl rfl rfl rfl rfl rfl (fun _ => by rw [Nat.zero_add]; exact flat_get QC_len hu (k := 8) rfl) | exact vo_un tok rfl rfl rfl rfl | exact vo_load tok 2 rfl rfl rfl rfl rfl) | refine sr_call rfl (callOp rfl rfl rfl rfl ⟨rfl, rfl, trivial⟩ rfl (by kernel_rfl)) rfl (fun w hm => finBE b c.bs bc u.q.bk (some k) w (Rws.own bC_len (hm.2.get (i := 1) rfl)) hbl hf) rfl rfl ?_)
      refine sc_true rfl rfl ?_
      repeat' (first | refine sc_region ?_ | ((refine' sx_v rfl ?_ rfl rfl ?_); rotate_left; first | exact vo_un tok rfl rfl rfl rfl | exact vo_load tok 2 rfl rfl rfl rfl rfl))
      refine sx_callM (σ := Option Addr × Nat) (fun _ => True) (fun p => .slice p.1 c.bs.length p.2) (fun p => [.own p.1 p.2 66 6 c.bs.length ((modB (endB code (clk now)) c.bs k).flatMap bC)]) rfl (callOp rfl rfl rfl rfl ⟨rfl, rfl, rfl, rfl, trivial⟩ rfl (by kernel_rfl)) (fun w1 hm => endL_any b c.bs bc k bv code now w1 (Rws.own bC_len (hm.2.get (i := 1) rfl)) hbl hbv hbk) rfl rfl ?_
      rintro ⟨pb, pbc⟩ -
      dsimp only [List.cons_append, List.nil_append]
      repeat' (first | refine sc_region ?_ | refine sq_then ?_ | refine sx_nil ?_ | ((refine' sx_v rfl ?_ rfl rfl ?_); rotate_left; exact vo_un tok rfl rfl rfl rfl) | refine sx_store tok 3 rfl rfl rfl rfl rfl rfl rfl rfl rfl rfl rfl rfl ?_)
      refine sx_ostore tok 1 rfl rfl rfl rfl rfl rfl rfl rfl rfl (show spl _ (0 + i * 15 + 8) _ = _ from by rw [Nat.zero_add]; exact flat_set QC_len (qv) i 8 (u) ({ u with q := { u.q with bk := emptyB } }) _ hu rfl) rfl rfl ?_
      repeat' (((refine' sx_v rfl ?_ rfl rfl ?_); rotate_left; exact vo_un tok rfl rfl rfl rfl))
      refine sx_ostore tok 1 rfl rfl rfl rfl rfl rfl rfl rfl rfl (show spl _ (0 + i * 15 + 9) _ = _ from by rw [Nat.zero_add]; exact flat_set QC_len (qv.set i { u with q := { u.q with bk := emptyB } }) i 9 ({ u with q := { u.q with bk := emptyB } }) (stopQ u) _ (setq_at hu _) rfl) rfl rfl ?_
      repeat' (refine sx_nil ?_)
      (refine sq_end tok (fun _ => 0) rfl rfl trivial rfl fun w1 hm => ?_)
      refine ⟨(_, ⟨stopL c i code now, pb, pbc, some ⟨gx, 0, none⟩, xc, qv.set i (stopQ u)⟩), ⟨rfl, rfl, rfl, by rw [hs, hmap, hq], hEQ, List.length_set⟩, rfl, ?_⟩
      rw [hs]
      rw [List.set_set, endB_clk] at hm
      unfold EM CC
      simp only [List.length_set, modB_len]
      exact (hm.perm (List.Perm.swap _ _ _)).mask [true, true, false] rfl
def finQv (code : Int) (u : QV) : QV := { u with q := { u.q with dn := true, cd := code, tx := emptyB } }
set_option maxRecDepth 100000 in
set_option maxHeartbeats 8000000 in
theorem fini_any {w0 : World} {M : List Ent} (g gx xc : Nat) (b : Option Addr) (bc : Nat) (c : CL) (qv : List QV) (i : Nat) (u : QV) (hu : qv[i]? = some u) (code now : Int) (w : World) (hq : c.qs = qv.map (·.q)) (hbo : ∀ b ∈ c.bs, bOk b = true) (hbl : c.bs.length ≤ 2513169434916) (hM : Mem w0 w (.own (some ⟨gx, 0, none⟩) xc 37 15 qv.length ((qv).flatMap QC) :: .own b bc 66 6 c.bs.length ((c.bs).flatMap bC) :: .cl g 29 [.slice b c.bs.length bc, .int .i64 c.ra, .int .i64 c.rb, .int .i64 c.rc, .int .i64 c.rk, .int .i64 c.tk, .int .i64 c.mo, .int .i64 c.gn, .slice (some ⟨gx, 0, none⟩) qv.length xc, .int .i64 c.nx] :: M)) : Calls Tryd.prog 40 #[.pointer (some ⟨g, 0, none⟩), .int .i64 ((i : Nat) : Int), .int .i64 code, .int .i64 now] w fun e w' => ∃ s : Value × CV, (s.2.c = finiL c i code now ∧ s.2.x = some ⟨gx, 0, none⟩ ∧ s.2.xc = xc ∧ s.2.qv.map (·.q) = s.2.c.qs ∧ s.2.qv.flatMap EQ = qv.flatMap EQ ∧ s.2.qv.length = qv.length) ∧ e = .returned s.1 ∧ Mem w0 w' (EM g s.2 ++ M) := by
  refine sx_enterM hM Tryd.func40 rfl Tryd.ntmps40 rfl rfl ?_
  repeat' (first | refine sc_seq ?_ | refine sc_region ?_ | ((refine' sx_v rfl ?_ rfl rfl ?_); rotate_left; exact vo_un tok rfl rfl rfl rfl))
  refine sx_callE (σ := Value × CV) (fun s => s.2.c = stopL c i code now ∧ s.2.x = some ⟨gx, 0, none⟩ ∧ s.2.xc = xc ∧ s.2.qv.map (·.q) = s.2.c.qs ∧ s.2.qv.flatMap EQ = qv.flatMap EQ ∧ s.2.qv.length = qv.length) (fun s => s.1) (fun s => EM g s.2 ++ M) rfl (callOp rfl rfl rfl rfl ⟨rfl, rfl, rfl, rfl, trivial⟩ rfl (by kernel_rfl)) (fun w hM => stop_any g gx xc b bc c qv i u hu code now w hq hbo hbl hM) rfl rfl ?_
  rintro ⟨r, ⟨c1, b1, bc1, x1, xc1, qv1⟩⟩ ⟨h1, h2, h3, h4, h5, h6⟩
  dsimp only at h1 h2 h3 h4 h5 h6
  subst h2 h3
  dsimp only [EM, List.cons_append, List.nil_append]
  have hi : i < qv1.length := by rw [h6]; exact (List.getElem?_eq_some_iff.1 hu).1
  obtain ⟨u1, hu1⟩ : ∃ u1, qv1[i]? = some u1 := ⟨_, List.getElem?_eq_getElem hi⟩
  have hs : finiL c i code now = { c1 with qs := c1.qs.modify i (fun q => { q with dn := true, cd := code, tx := emptyB }) } := by unfold finiL; rw [← h1]; rfl
  have hmap := set_map hu1 (finQv code) (fun q => { q with dn := true, cd := code, tx := emptyB }) rfl
  have hEQ := EQ_set hu1 (u' := finQv code u1) rfl
  repeat' (first | refine sq_then ?_ | refine sx_nil ?_)
  refine sc_regionT [false] follows_any (by kernel_rfl) ?_
  iterate 14 (((refine' st_v rfl rfl ?_ rfl rfl ?_); rotate_left; first | exact vo_ixa tok (m := 15) i rfl rfl rfl rfl rfl rfl rfl rfl (fun _ => rfl) (fun _ => hi) | exact vo_un tok rfl rfl rfl rfl | exact vo_load tok 1 rfl rfl rfl rfl rfl | exact vo_build tok rfl rfl ⟨rfl, trivial⟩ rfl rfl rfl))
  refine st_ostore tok 0 rfl rfl rfl rfl rfl rfl rfl rfl rfl (show spl _ (0 + i * 15 + 12) [.bool true] = _ from by rw [Nat.zero_add]; exact flat_set QC_len (qv1) i 12 (u1) ({ u1 with q := { u1.q with dn := true } }) [.bool true] hu1 rfl) rfl rfl (by intro _ h; exact Mem.mask [false] h rfl) ?_
  iterate 2 (((refine' st_v rfl rfl ?_ rfl rfl ?_); rotate_left; first | exact vo_ixa tok (m := 15) i rfl rfl rfl rfl rfl rfl rfl rfl (fun _ => rfl) (fun _ => hi) | exact vo_un tok rfl rfl rfl rfl))
  refine st_ostore tok 0 rfl rfl rfl rfl rfl rfl rfl rfl rfl (show spl _ (0 + i * 15 + 13) [.int .i64 code, .string ⟨#[]⟩] = _ from by rw [Nat.zero_add]; exact flat_set QC_len (qv1.set i { u1 with q := { u1.q with dn := true } }) i 13 ({ u1 with q := { u1.q with dn := true } }) (finQv code u1) [.int .i64 code, .string ⟨#[]⟩] (setq_at hu1 _) rfl) rfl rfl (by intro _ h; exact Mem.mask [false] h rfl) ?_
  refine st_nil ?_
  skip
  (refine sq_end tok (fun _ => 0) rfl rfl trivial rfl fun w1 hm => ?_)
  refine ⟨(_, ⟨finiL c i code now, b1, bc1, some ⟨gx, 0, none⟩, xc1, qv1.set i (finQv code u1)⟩), ⟨rfl, rfl, rfl, by rw [hs, hmap, h4], by rw [hEQ, h5], by rw [List.length_set, h6]⟩, rfl, ?_⟩
  rw [hs]
  rw [List.set_set] at hm
  simp only [CC, List.length_set]
  exact hm
end Go.Proofs.YtmdkfbmpenohiaaDoor.Y

/- client.again, End. -/
namespace Go.Proofs.YtmdkfbmpenohiaaDoor.Y
open Go.RowKit
theorem mayE (a b c k t m gn n code : Int) (safe : Bool) (r : Bool) (h : mayI a b c k t m gn n code safe = r) (w : World) : Calls Tryd.prog 54 #[.agg #[.int .i64 a, .int .i64 b, .int .i64 c, .int .i64 k], .agg #[.int .i64 t, .int .i64 m, .int .i64 gn], .int .i64 n, .int .i64 code, .bool safe] w fun e w' => e = .returned (.bool r) ∧ Below w.heap.size w w' := by subst h; exact may_any a b c k t m gn n code safe w
theorem pausE (a b c k n r : Int) (hn : n ≤ 9223372036854775807) (h : paus a b c k n = r) (w : World) : Calls Tryd.prog 56 #[.agg #[.int .i64 a, .int .i64 b, .int .i64 c, .int .i64 k], .int .i64 n] w fun e w' => e = .returned (.int .i64 r) ∧ Below w.heap.size w w' := by subst h; exact paus_any a b c k n w hn
theorem aftE (a b r : Int) (h : aftL a b = r) (w : World) : Calls Tryd.prog 55 #[.int .i64 a, .int .i64 b] w fun e w' => e = .returned (.int .i64 r) ∧ Below w.heap.size w w' := by subst h; exact aft53_any a b w
def agaR (c : CL) (q : QR) (now code : Int) (safe : Bool) : Int × Int := if mayL c q.att code safe = true ∧ q.an.length = 0 then (if 1 ≤ q.late ∧ q.late ≤ agaAt c q now then (0, c.tk) else (agaAt c q now, btk c.tk c.mo c.gn)) else (0, c.tk)
theorem agaR_ok {c : CL} {q : QR} {now code : Int} {safe : Bool} (h : agaOk c q now code safe = true) : agaR c q now code safe = (agaAt c q now, btk c.tk c.mo c.gn) := by
  unfold agaOk at h
  simp only [Bool.and_eq_true, decide_eq_true_eq, Bool.not_eq_true', Bool.and_eq_false_iff, decide_eq_false_iff_not] at h
  unfold agaR
  rw [if_pos ⟨h.1.1.1, h.1.1.2⟩, if_neg (by intro h2; rcases h.1.2 with h3 | h3 <;> omega)]
theorem ret_three {a b c a' b' c' : Value} (h1 : a = a') (h2 : b = b') (h3 : c = c') : Ending.returned (.tuple #[a, b, c]) = Ending.returned (.tuple #[a', b', c']) := by rw [h1, h2, h3]
set_option maxRecDepth 100000 in
set_option maxHeartbeats 8000000 in
theorem aga_any (v : CV) (u : QV) (now code : Int) (safe : Bool) (w : World) (hat : u.q.att ≤ 9223372036854775807) : Calls Tryd.prog 38 #[.agg #[.slice v.b v.c.bs.length v.bc, .int .i64 v.c.ra, .int .i64 v.c.rb, .int .i64 v.c.rc, .int .i64 v.c.rk, .int .i64 v.c.tk, .int .i64 v.c.mo, .int .i64 v.c.gn, .slice v.x v.qv.length v.xc, .int .i64 v.c.nx], .agg #[.int .i64 u.q.id, .string u.q.sv, .string u.q.mt, .int .i64 u.q.late, .slice u.m u.q.ms.length u.mc, .int .i64 u.q.sh, .slice u.s u.q.mg.length u.sc, .int .i64 u.q.att, .string u.q.bk, .int .i64 u.q.st, .int .i64 u.q.nx, .slice u.a u.q.an.length u.ac, .bool u.q.dn, .int .i64 u.q.cd, .string u.q.tx], .int .i64 now, .int .i64 code, .bool safe] w fun e w' => e = .returned (.tuple #[.int .i64 (agaR v.c u.q now code safe).1, .agg #[.int .i64 (agaR v.c u.q now code safe).2, .int .i64 v.c.mo, .int .i64 v.c.gn], .bool (agaOk v.c u.q now code safe)]) ∧ Below w.heap.size w w' := by
  obtain ⟨b1, h1⟩ : ∃ b, mayI v.c.ra v.c.rb v.c.rc v.c.rk v.c.tk v.c.mo v.c.gn u.q.att code safe = b := ⟨_, rfl⟩
  obtain ⟨p1, h2⟩ : ∃ p, paus v.c.ra v.c.rb v.c.rc v.c.rk u.q.att = p := ⟨_, rfl⟩
  obtain ⟨a1, h3⟩ : ∃ p, aftL now p1 = p := ⟨_, rfl⟩
  have hok : agaOk v.c u.q now code safe = (b1 && decide (u.q.an.length = 0) && !(decide (1 ≤ u.q.late) && decide (u.q.late ≤ a1)) && decide (btkE v.c.tk v.c.mo v.c.gn = 0)) := by
    unfold agaOk agaAt; rw [mayL_I, h1, h2, h3]
  have hag : agaAt v.c u.q now = a1 := by unfold agaAt; rw [h2, h3]
  refine sx_enter Tryd.func38 rfl Tryd.ntmps38 rfl rfl ?_
  refine sc_seq ?_
  refine sc_region ?_
  (refine sx_box rfl rfl rfl rfl rfl rfl ?_; intro g5)
  (refine sx_box rfl rfl rfl rfl rfl rfl ?_; intro g6)
  ((refine' sx_v rfl ?_ rfl rfl ?_); rotate_left; exact vo_un tok rfl rfl rfl rfl)
  (refine sx_alloc tok rfl rfl rfl rfl rfl rfl ?_; intro g11)
  repeat' (first | refine sc_seq ?_ | refine sc_region ?_ | refine sq_then ?_ | refine sx_nil ?_ | ((refine' sx_v rfl ?_ rfl rfl ?_); rotate_left; first | exact vo_un tok rfl rfl rfl rfl | exact vo_bin tok rfl rfl rfl rfl rfl rfl | exact vo_or rfl rfl rfl rfl rfl | exact vo_load tok 1 rfl rfl rfl rfl rfl | exact vo_load tok 2 rfl rfl rfl rfl rfl | exact vo_len tok rfl rfl rfl rfl rfl rfl rfl) | refine sx_call rfl (callOp rfl rfl rfl rfl ⟨rfl, rfl, rfl, rfl, rfl, trivial⟩ rfl (by kernel_rfl)) (fun w hm => mayE _ _ _ _ _ _ _ _ _ _ b1 h1 w) rfl rfl ?_)
  by_cases hA : b1 = true ∧ u.q.an.length = 0
  · obtain ⟨rfl, hA2⟩ := hA
    refine sc_false rfl (by simp [hA2]) ?_
    repeat' (first | refine sc_seq ?_ | refine sc_region ?_ | refine sq_then ?_ | refine sc_skip ?_ | refine sx_nil ?_ | ((refine' sx_v rfl ?_ rfl rfl ?_); rotate_left; first | exact vo_un tok rfl rfl rfl rfl | exact vo_bin tok rfl rfl rfl rfl rfl rfl | exact vo_and rfl rfl rfl rfl rfl | exact vo_load tok 1 rfl rfl rfl rfl rfl | exact vo_load tok 2 rfl rfl rfl rfl rfl) | refine sx_call rfl (callOp rfl rfl rfl rfl ⟨rfl, rfl, trivial⟩ rfl (by kernel_rfl)) (fun w hm => pausE _ _ _ _ _ p1 hat h2 w) rfl rfl ?_ | refine sx_call rfl (callOp rfl rfl rfl rfl ⟨rfl, rfl, trivial⟩ rfl (by kernel_rfl)) (fun w hm => aftE _ _ a1 h3 w) rfl rfl ?_)
    by_cases hB : 1 ≤ u.q.late ∧ u.q.late ≤ a1
    · refine sc_true rfl (by simp; omega) ?_
      repeat' (first | refine sc_seq ?_ | refine sq_then ?_ | refine sc_ret ?_ | refine sq_pass_ret ?_ | refine sc_regionD follows_any rfl (by kernel_rfl) ?_ | refine sx_nil ?_ | refine sr_nil0 ?_ | ((first | refine' sx_v rfl ?_ rfl rfl ?_ | refine' sr_v rfl ?_ rfl rfl rfl ?_); rotate_left; first | exact vo_un tok rfl rfl rfl rfl | exact vo_load tok 2 rfl rfl rfl rfl rfl) | refine sx_store tok 0 rfl rfl rfl rfl rfl rfl rfl rfl rfl rfl rfl rfl ?_)
      (refine sq_ret tok (fun _ => 0) rfl rfl ⟨rfl, trivial⟩ rfl fun w1 hm => ⟨?_, hm.below⟩)
      have hR : agaR v.c u.q now code safe = (0, v.c.tk) := by unfold agaR; rw [mayL_I, h1, if_pos ⟨rfl, hA2⟩, hag, if_pos hB]
      rw [hR]
      refine ret_three rfl rfl ?_
      rw [hok]; simp [hB.1, hB.2]
    · refine sc_false rfl (by simp; omega) ?_
      repeat' (first | refine sc_seq ?_ | refine sc_region ?_ | refine sq_then ?_ | refine sc_skip ?_ | refine sx_nil ?_ | (refine sx_alloc tok rfl rfl rfl rfl rfl rfl ?_; intro g14) | ((refine' sx_v rfl ?_ rfl rfl ?_); rotate_left; first | exact vo_un tok rfl rfl rfl rfl | exact vo_load tok 2 rfl rfl rfl rfl rfl) | refine sx_call rfl (callOp rfl rfl rfl rfl ⟨rfl, trivial⟩ rfl (by kernel_rfl)) (fun w hm => btk_any _ _ _ w) rfl rfl ?_ | refine sx_store tok 0 rfl rfl rfl rfl rfl rfl rfl rfl rfl rfl rfl rfl ?_)
      refine sc_regionT [true, false] follows_any (by kernel_rfl) ?_
      iterate 5 (((refine' st_v rfl rfl ?_ rfl rfl ?_); rotate_left; first | exact vo_un tok rfl rfl rfl rfl | exact vo_bin tok rfl rfl rfl rfl rfl rfl | exact vo_load tok 0 rfl rfl rfl rfl rfl))
      refine st_store tok 1 rfl rfl rfl rfl rfl rfl rfl rfl rfl rfl rfl rfl (by intro _ h; exact Mem.mask [true, false] h rfl) ?_
      ((refine' st_v rfl rfl ?_ rfl rfl ?_); rotate_left; exact vo_un tok rfl rfl rfl rfl)
      refine st_nil ?_
      repeat' (first | refine sq_then ?_ | refine sc_ret ?_)
      (refine sq_ret tok (fun _ => 1) rfl rfl ⟨rfl, trivial⟩ rfl fun w1 hm => ⟨?_, hm.below⟩)
      have hR : agaR v.c u.q now code safe = (a1, btk v.c.tk v.c.mo v.c.gn) := by unfold agaR; rw [mayL_I, h1, if_pos ⟨rfl, hA2⟩, hag, if_neg hB]
      rw [hR]
      refine ret_three rfl rfl ?_
      rw [hok]
      have hB' : (decide (1 ≤ u.q.late) && decide (u.q.late ≤ a1)) = false := by simp; omega
      rw [hB']
      simp [hA2, Bool.beq_eq_decide_eq]
  · refine sc_true rfl (by
      cases b1 with
      | false => rfl
      | true =>
        have h0 : ¬ u.q.an.length = 0 := fun e => hA ⟨rfl, e⟩
        simp only [Bool.not_true, Bool.false_or, decide_eq_true_eq]
        omega) ?_
    have hk : agaOk v.c u.q now code safe = false := by
      rw [hok]
      cases b1 with
      | false => rfl
      | true =>
        have h0 : ¬ u.q.an.length = 0 := fun e => hA ⟨rfl, e⟩
        simp [h0]
    repeat' (first | refine sc_seq ?_ | refine sq_then ?_ | refine sc_ret ?_ | refine sq_pass_ret ?_ | refine sc_regionD follows_any rfl (by kernel_rfl) ?_ | refine sx_nil ?_ | refine sr_nil0 ?_ | ((first | refine' sx_v rfl ?_ rfl rfl ?_ | refine' sr_v rfl ?_ rfl rfl rfl ?_); rotate_left; first | exact vo_un tok rfl rfl rfl rfl | exact vo_load tok 2 rfl rfl rfl rfl rfl) | refine sx_store tok 0 rfl rfl rfl rfl rfl rfl rfl rfl rfl rfl rfl rfl ?_)
    (refine sq_ret tok (fun _ => 0) rfl rfl ⟨rfl, trivial⟩ rfl fun w1 hm => ⟨?_, hm.below⟩)
    have hR : agaR v.c u.q now code safe = (0, v.c.tk) := by unfold agaR; rw [mayL_I, h1, if_neg hA]
    rw [hR]
    refine ret_three rfl rfl ?_
    rw [hk]
end Go.Proofs.YtmdkfbmpenohiaaDoor.Y

/- client.End. -/
namespace Go.Proofs.YtmdkfbmpenohiaaDoor.Y
open Go.RowKit
theorem sl_own {P : Program} {l0 l : List Oper} {Q : Exit → Act → World → Prop} {n : Nat} {w0 : World} {S : Sts} {M : List Ent} (i : Nat) {a : Option Addr} {cap : Nat} {e : TypeId} {size k : Nat} {xs : List Value} (hi : nth M i = some (.own a cap e size k xs)) (hk : 0 < k) (h : ∀ g, a = some ⟨g, 0, none⟩ → SL P l0 Q l n w0 S M) : SL P l0 Q l n w0 S M :=
  ⟨fun a w h1 h2 => by
    obtain ⟨g, hg⟩ := own_some (h2.2.get hi) hk
    exact (h g hg).run a w h1 h2⟩
theorem runE' {A : Nat → Prop} (v : CV) (id e : Int) (k : Nat) (w : World) (hC : COk A w v) (hzq : v.qv.length ≤ 703687441776) (he : runE v.c id = e) (hk : runI v.c id = k) : Calls Tryd.prog 33 #[.agg ⟨[.slice v.b v.c.bs.length v.bc, .int .i64 v.c.ra, .int .i64 v.c.rb, .int .i64 v.c.rc, .int .i64 v.c.rk, .int .i64 v.c.tk, .int .i64 v.c.mo, .int .i64 v.c.gn, .slice v.x v.qv.length v.xc, .int .i64 v.c.nx]⟩, .int .i64 id] w fun r w' => r = .returned (.tuple ⟨[.int .i64 ((k : Nat) : Int), .int .i64 e]⟩) ∧ Below w.heap.size w w' := by subst he hk; exact run_any v id w hC hzq
theorem run_ok {c : CL} {id : Int} (h : runE c id = 0) : ∃ q, c.qs[runI c id]? = some q ∧ q.bk.size ≠ 0 := by
  cases hf : finQ id c.qs 0 with
  | none => rw [(runE_none hf).1] at h; cases h
  | some k =>
    obtain ⟨q, hq, _⟩ := finQ_at hf
    obtain ⟨h1, h2⟩ := runE_some hf hq
    rw [h1] at h
    by_cases hb : q.bk.size = 0
    · rw [if_pos hb] at h; cases h
    · rw [h2, if_neg hb]; exact ⟨q, hq, hb⟩
theorem chkSE (c e : Int) (s : ByteArray) (w : World) (hs : s.size ≤ 4611686018427387900) (he : checkS c s = e) : Calls Tryd.prog 34 #[.agg #[.int .i64 c, .string s]] w fun r w' => r = .returned (.int .i64 e) ∧ Below w.heap.size w w' := by subst he; exact check_any c s w hs
def endK (d : CL) (k : Nat) (now code : Int) (tx : ByteArray) (safe : Bool) : CL × Int :=
  if agaOk d (atQ d k) (clk now) code safe = true then (setQ { d with tk := btk d.tk d.mo d.gn } k (fun q => { q with nx := agaAt d q (clk now) }), 0) else (setQ d k (fun q => { q with dn := true, cd := code, tx := tx }), 0)
theorem p3 (a b c : Ent) (R : List Ent) : (a :: b :: c :: R).Perm (b :: c :: a :: R) := (List.Perm.swap b a (c :: R)).trans (List.Perm.cons b (List.Perm.swap c a R))
theorem agaE (v : CV) (u : QV) (now code : Int) (safe b : Bool) (x t : Int) (w : World) (hat : u.q.att ≤ 9223372036854775807) (hb : agaOk v.c u.q now code safe = b) (hx : (agaR v.c u.q now code safe).1 = x) (ht : (agaR v.c u.q now code safe).2 = t) : Calls Tryd.prog 38 #[.agg ⟨CC v⟩, .agg ⟨QC u⟩, .int .i64 now, .int .i64 code, .bool safe] w fun e w' => e = .returned (.tuple ⟨[.int .i64 x, .agg ⟨[.int .i64 t, .int .i64 v.c.mo, .int .i64 v.c.gn]⟩, .bool b]⟩) ∧ Below w.heap.size w w' := by subst hb hx ht; exact aga_any v u now code safe w hat
theorem stop_att {c : CL} {i : Nat} {code now : Int} : (atQ (stopL c i code now) i).att = (atQ c i).att := by
  unfold stopL
  dsimp only
  split
  · rfl
  · unfold atQ setQ
    simp only [List.getD_eq_getElem?_getD, List.getElem?_modify]
    cases c.qs[i]? <;> simp
set_option maxRecDepth 100000 in
set_option maxHeartbeats 8000000 in
theorem endC_any2 {A : Nat → Prop} (v : CV) (now id code : Int) (tx : ByteArray) (safe : Bool) (w : World) (hC : COk A w v) (hzq : v.qv.length ≤ 703687441776) (hzb : v.c.bs.length ≤ 2513169434916) (hz : ∀ u ∈ v.qv, SzQ u.q) (hbo : ∀ b ∈ v.c.bs, bOk b = true) (htx : tx.size ≤ 4611686018427387900) (hatt : ∀ q ∈ v.c.qs, q.att ≤ 9223372036854775807) : Calls Tryd.prog 17 #[.agg #[.slice v.b v.c.bs.length v.bc, .int .i64 v.c.ra, .int .i64 v.c.rb, .int .i64 v.c.rc, .int .i64 v.c.rk, .int .i64 v.c.tk, .int .i64 v.c.mo, .int .i64 v.c.gn, .slice v.x v.qv.length v.xc, .int .i64 v.c.nx], .int .i64 now, .int .i64 id, .agg #[.int .i64 code, .string tx], .bool safe] w fun e w' => ∃ v' : CV, v'.c = (endC v.c now id code tx safe).1 ∧ e = .returned (.tuple #[.agg ⟨CC v'⟩, .int .i64 (endC v.c now id code tx safe).2]) ∧ Out A w w' v' := by
  obtain ⟨er, her⟩ : ∃ e, runE v.c id = e := ⟨_, rfl⟩
  obtain ⟨k, hkr⟩ : ∃ k, runI v.c id = k := ⟨_, rfl⟩
  obtain ⟨es, hes⟩ : ∃ e, checkS code tx = e := ⟨_, rfl⟩
  refine sx_enter Tryd.func17 rfl Tryd.ntmps17 rfl rfl ?_
  refine sc_seq ?_
  refine sc_region ?_
  (refine sx_box rfl rfl rfl rfl rfl rfl ?_; intro g5)
  (refine sx_box rfl rfl rfl rfl rfl rfl ?_; intro g8)
  (refine sx_alloc tok rfl rfl rfl rfl rfl rfl ?_; intro g10)
  repeat' (first | refine sc_seq ?_ | refine sc_region ?_ | refine sq_then ?_ | refine sx_nil ?_ | ((refine' sx_v rfl ?_ rfl rfl ?_); rotate_left; first | exact vo_un tok rfl rfl rfl rfl | exact vo_bin tok rfl rfl rfl rfl rfl rfl | exact vo_load tok 2 rfl rfl rfl rfl rfl) | refine sx_call rfl (callOp rfl rfl rfl rfl ⟨rfl, rfl, trivial⟩ rfl (by kernel_rfl)) (fun w hm => (runE' v id er k w (hC.below hm.below) hzq her hkr)) rfl rfl ?_)
  by_cases he0 : er = 0
  · subst he0
    refine sc_false rfl rfl ?_
    repeat' (first | refine sc_seq ?_ | refine sc_region ?_ | refine sq_then ?_ | refine sc_skip ?_ | refine sx_nil ?_ | ((refine' sx_v rfl ?_ rfl rfl ?_); rotate_left; first | exact vo_un tok rfl rfl rfl rfl | exact vo_bin tok rfl rfl rfl rfl rfl rfl | exact vo_load tok 1 rfl rfl rfl rfl rfl) | refine sx_call rfl (callOp rfl rfl rfl rfl ⟨rfl, trivial⟩ rfl (by kernel_rfl)) (fun w hm => chkSE code es tx w htx hes) rfl rfl ?_)
    by_cases hs0 : es = 0
    · subst hs0
      refine sc_false rfl rfl ?_
      obtain ⟨q0, hq0, hqb⟩ := run_ok her
      rw [hkr] at hq0
      have hen : endC v.c now id code tx safe = endK (stopL v.c k code (clk now)) k now code tx safe := by
        unfold endC; rw [her, if_neg (by decide), hes, if_neg (by decide), hkr]; rfl
      repeat' (first | refine sc_seq ?_ | refine sc_region ?_ | refine sq_then ?_ | refine sc_skip ?_ | refine sx_nil ?_ | ((refine' sx_v rfl ?_ rfl rfl ?_); rotate_left; first | exact vo_un tok rfl rfl rfl rfl | exact vo_load tok 2 rfl rfl rfl rfl rfl) | refine sx_call rfl (callOp rfl rfl rfl rfl ⟨rfl, trivial⟩ rfl (by kernel_rfl)) (fun w hm => clock_any now w) rfl rfl ?_)
      refine sx_callM (σ := CV) (fun s => s.c = v.c ∧ s.qv.map (·.q) = v.qv.map (·.q)) (fun s => .agg ⟨CC s⟩) EC rfl (callOp rfl rfl rfl rfl ⟨rfl, trivial⟩ rfl (by kernel_rfl)) (fun w1 hm => cloned_any v w1 (hC.below hm.below) hzb (by omega) hz) rfl rfl ?_
      rintro ⟨c1, b1, bc1, x1, xc1, qv1⟩ ⟨hc1, hq1⟩
      dsimp only at hc1 hq1
      subst hc1
      have hln := map_len hq1
      refine sl_conv (fun w hM => hM.perm (rot2 [_, _] _ _)) ?_
      dsimp only [List.cons_append, List.nil_append]
      have hk1 : k < qv1.length := by rw [hln, ← hC.lenq]; exact (List.getElem?_eq_some_iff.1 hq0).1
      obtain ⟨u1, hu1⟩ : ∃ u, qv1[k]? = some u := ⟨_, List.getElem?_eq_getElem hk1⟩
      have hqm : v.c.qs = qv1.map (·.q) := by rw [hC.eq, hq1]
      refine sl_own 0 rfl (by show 0 < qv1.length; omega) ?_
      rintro gx hx1

      subst hx1
      repeat' (first | refine sc_seq ?_ | refine sc_region ?_ | refine sq_then ?_ | refine sx_nil ?_ | (refine sx_alloc tok rfl rfl rfl rfl rfl rfl ?_; intro g15) | ((refine' sx_v rfl ?_ rfl rfl ?_); rotate_left; first | exact vo_un tok rfl rfl rfl rfl | exact vo_load tok 4 rfl rfl rfl rfl rfl) | refine sx_store tok 0 rfl rfl rfl rfl rfl rfl rfl rfl rfl rfl rfl rfl ?_)
      refine sl_conv (fun w hM => hM.perm (p3 _ _ _ _)) ?_
      refine sx_callE (σ := Value × CV) (fun s => s.2.c = stopL v.c k code (clk now) ∧ s.2.x = some ⟨gx, 0, none⟩ ∧ s.2.xc = xc1 ∧ s.2.qv.map (·.q) = s.2.c.qs ∧ s.2.qv.flatMap EQ = qv1.flatMap EQ ∧ s.2.qv.length = qv1.length) (fun s => s.1) (fun s => EM g15 s.2 ++ _) rfl (callOp rfl rfl rfl rfl ⟨rfl, rfl, rfl, rfl, trivial⟩ rfl (by kernel_rfl)) (fun w hM => stop_any g15 gx xc1 b1 bc1 v.c qv1 k u1 hu1 code (clk now) w hqm hbo hzb hM) rfl rfl ?_
      rintro ⟨r, ⟨c2, b2, bc2, x2, xc2, qv2⟩⟩ ⟨h1, h2, h3, h4, h5, h6⟩
      dsimp only at h1 h2 h3 h4 h5 h6
      subst h2 h3
      rw [← h1] at hen
      have hk2 : k < qv2.length := by omega
      obtain ⟨u2, hu2⟩ : ∃ u, qv2[k]? = some u := ⟨_, List.getElem?_eq_getElem hk2⟩
      have hat2 : atQ c2 k = u2.q := atQ_eq h4.symm hu2
      have hqa : u2.q.att ≤ 9223372036854775807 := by
        have h9 : (atQ c2 k).att = (atQ v.c k).att := by rw [h1]; exact stop_att
        rw [hat2] at h9
        rw [h9, atQ_eq hqm hu1]
        exact hatt _ (by rw [hqm]; exact List.mem_map_of_mem (List.mem_of_getElem? hu1))
      unfold endK at hen
      rw [hat2] at hen
      obtain ⟨bO, hbO⟩ : ∃ b, agaOk c2 u2.q (clk now) code safe = b := ⟨_, rfl⟩
      obtain ⟨x, hx⟩ : ∃ x, (agaR c2 u2.q (clk now) code safe).1 = x := ⟨_, rfl⟩
      obtain ⟨t, ht⟩ : ∃ t, (agaR c2 u2.q (clk now) code safe).2 = t := ⟨_, rfl⟩
      rw [hbO] at hen
      repeat' (first | refine sc_seq ?_ | refine sc_region ?_ | refine sq_then ?_ | refine sc_regionD follows_any rfl (by kernel_rfl) ?_ | refine sx_nil ?_ | (refine sr_nil1 ?_; intro g) | ((first | refine' sx_v rfl ?_ rfl rfl ?_ | refine' sr_v rfl ?_ rfl rfl rfl ?_); rotate_left; first | exact vo_ixa tok (m := 15) k rfl rfl rfl rfl rfl rfl rfl rfl (fun _ => rfl) (fun _ => hk2) | exact vo_orow tok 0 (cs := QC u2) rfl rfl rfl rfl rfl rfl (fun _ j c hc => by rw [Nat.zero_add]; exact flat_get QC_len hu2 hc) | exact vo_un tok rfl rfl rfl rfl | exact vo_load tok 2 rfl rfl rfl rfl rfl | exact vo_load tok 4 rfl rfl rfl rfl rfl) | refine sr_call rfl (callOp rfl rfl rfl rfl ⟨rfl, rfl, rfl, rfl, rfl, trivial⟩ rfl (by kernel_rfl)) rfl (fun w hm => agaE ⟨c2, b2, bc2, some ⟨gx, 0, none⟩, xc2, qv2⟩ u2 (clk now) code safe bO x t w hqa hbO hx ht) rfl rfl ?_ | refine sr_alloc tok rfl rfl rfl rfl rfl rfl ?_ | refine sx_store tok 0 rfl rfl rfl rfl rfl rfl rfl rfl rfl rfl rfl rfl ?_)
      cases bO with
      | true =>
        rw [if_pos rfl] at hen
        have hR := agaR_ok hbO
        rw [hR] at hx ht
        dsimp only at hx ht
        rw [ht] at hen
        refine sc_true rfl rfl ?_
        repeat' (first | refine sc_region ?_ | ((refine' sx_v rfl ?_ rfl rfl ?_); rotate_left; first | exact vo_un tok rfl rfl rfl rfl | exact vo_load tok 0 rfl rfl rfl rfl rfl) | refine sx_store tok 3 rfl rfl rfl rfl rfl rfl rfl rfl rfl rfl rfl rfl ?_)
        refine sx_ostore tok 1 rfl rfl rfl rfl rfl rfl rfl rfl rfl (show spl _ (0 + k * 15 + 10) _ = _ from by rw [Nat.zero_add]; exact flat_set QC_len (qv2) k 10 (u2) ({ u2 with q := { u2.q with nx := x } }) _ hu2 rfl) rfl rfl ?_
        repeat' (first | refine sc_seq ?_ | refine sc_region ?_ | refine sq_then ?_ | refine sc_ret ?_ | refine sx_nil ?_ | ((refine' sx_v rfl ?_ rfl rfl ?_); rotate_left; first | exact vo_un tok rfl rfl rfl rfl | exact vo_load tok 3 rfl rfl rfl rfl rfl) | refine sx_store tok 4 rfl rfl rfl rfl rfl rfl rfl rfl rfl rfl rfl rfl ?_)
        (refine sq_ret tok (fun _ => 4) rfl rfl ⟨rfl, trivial⟩ rfl fun w1 hm => ⟨⟨(endC v.c now id code tx safe).1, b2, bc2, some ⟨gx, 0, none⟩, xc2, qv2.set k ({ u2 with q := { u2.q with nx := x } })⟩, rfl, ?_, ?_⟩)
        · rw [hen]; simp [CC, setQ]
        · refine Out.made ?_ (by rw [hen]; simp only [setQ]; rw [← h4]; exact (set_map hu2 (fun _ => { u2 with q := { u2.q with nx := x } }) _ (by rw [← hx])).symm)
          rw [hen]
          have h9 := hm.mask [false, true, true, false, false, false, false] rfl
          simp only [EC, setQ, List.length_set]
          rw [EQ_set hu2 (u' := { u2 with q := { u2.q with nx := x } }) rfl, h5]
          exact h9
      | false =>
        rw [if_neg (by decide)] at hen
        refine sc_false rfl rfl ?_
        skip
        refine sc_regionT [true, false] follows_any (by kernel_rfl) ?_
        iterate 5 (((refine' st_v rfl rfl ?_ rfl rfl ?_); rotate_left; first | exact vo_un tok rfl rfl rfl rfl | exact vo_load tok 4 rfl rfl rfl rfl rfl))
        refine st_ostore tok 1 rfl rfl rfl rfl rfl rfl rfl rfl rfl (show spl _ (0 + k * 15 + 12) [.bool true] = _ from by rw [Nat.zero_add]; exact flat_set QC_len (qv2) k 12 (u2) ({ u2 with q := { u2.q with dn := true } }) [.bool true] hu2 rfl) rfl rfl (by intro _ h; exact Mem.mask [true, false] h rfl) ?_
        iterate 2 (((refine' st_v rfl rfl ?_ rfl rfl ?_); rotate_left; exact vo_un tok rfl rfl rfl rfl))
        refine st_ostore tok 1 rfl rfl rfl rfl rfl rfl rfl rfl rfl (show spl _ (0 + k * 15 + 13) [.int .i64 code, .string tx] = _ from by rw [Nat.zero_add]; exact flat_set QC_len (qv2.set k { u2 with q := { u2.q with dn := true } }) k 13 ({ u2 with q := { u2.q with dn := true } }) ({ u2 with q := { u2.q with dn := true, cd := code, tx := tx } }) [.int .i64 code, .string tx] (setq_at hu2 _) rfl) rfl rfl (by intro _ h; exact Mem.mask [true, false] h rfl) ?_
        refine st_nil ?_
        repeat' (first | refine sc_seq ?_ | refine sc_region ?_ | refine sq_then ?_ | refine sc_ret ?_ | refine sx_nil ?_ | ((refine' sx_v rfl ?_ rfl rfl ?_); rotate_left; first | exact vo_un tok rfl rfl rfl rfl | exact vo_load tok 3 rfl rfl rfl rfl rfl) | refine sx_store tok 4 rfl rfl rfl rfl rfl rfl rfl rfl rfl rfl rfl rfl ?_)
        (refine sq_ret tok (fun _ => 4) rfl rfl ⟨rfl, trivial⟩ rfl fun w1 hm => ⟨⟨(endC v.c now id code tx safe).1, b2, bc2, some ⟨gx, 0, none⟩, xc2, qv2.set k ({ u2 with q := { u2.q with dn := true, cd := code, tx := tx } })⟩, rfl, ?_, ?_⟩)
        · rw [hen]; simp [CC, setQ]
        · refine Out.made ?_ (by rw [hen]; simp only [setQ]; rw [← h4]; exact (set_map hu2 (fun _ => { u2 with q := { u2.q with dn := true, cd := code, tx := tx } }) _ rfl).symm)
          rw [hen]
          rw [List.set_set] at hm
          have h9 := hm.mask [false, true, true, false, false, false, false] rfl
          simp only [EC, setQ, List.length_set]
          rw [EQ_set hu2 (u' := { u2 with q := { u2.q with dn := true, cd := code, tx := tx } }) rfl, h5]
          exact h9
    · refine sc_true rfl (by simpa using hs0) ?_
      have hen : endC v.c now id code tx safe = (v.c, es) := by unfold endC; rw [her, if_neg (by decide), hes, if_pos hs0]
      repeat' (first | refine sc_seq ?_ | refine sc_region ?_ | refine sq_then ?_ | refine sc_ret ?_ | refine sq_pass_ret ?_ | refine sx_nil ?_ | ((refine' sx_v rfl ?_ rfl rfl ?_); rotate_left; first | exact vo_un tok rfl rfl rfl rfl | exact vo_load tok 2 rfl rfl rfl rfl rfl) | refine sx_store tok 0 rfl rfl rfl rfl rfl rfl rfl rfl rfl rfl rfl rfl ?_)
      (refine sq_ret tok (fun _ => 0) rfl rfl ⟨rfl, trivial⟩ rfl fun w1 hm => ⟨v, ?_, ?_, Out.same hC hm.below⟩)
      · rw [hen]
      · rw [hen]; rfl
  · refine sc_true rfl (by simpa using he0) ?_
    have hen : endC v.c now id code tx safe = (v.c, er) := by unfold endC; rw [her, if_pos he0]
    repeat' (first | refine sc_seq ?_ | refine sc_region ?_ | refine sq_then ?_ | refine sc_ret ?_ | refine sq_pass_ret ?_ | refine sx_nil ?_ | ((refine' sx_v rfl ?_ rfl rfl ?_); rotate_left; first | exact vo_un tok rfl rfl rfl rfl | exact vo_load tok 2 rfl rfl rfl rfl rfl) | refine sx_store tok 0 rfl rfl rfl rfl rfl rfl rfl rfl rfl rfl rfl rfl ?_)
    (refine sq_ret tok (fun _ => 0) rfl rfl ⟨rfl, trivial⟩ rfl fun w1 hm => ⟨v, ?_, ?_, Out.same hC hm.below⟩)
    · rw [hen]
    · rw [hen]; rfl
end Go.Proofs.YtmdkfbmpenohiaaDoor.Y
