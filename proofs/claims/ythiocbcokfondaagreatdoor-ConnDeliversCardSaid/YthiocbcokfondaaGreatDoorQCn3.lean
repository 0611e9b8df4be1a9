/- conn.cloned: a connection that shares nothing. -/
import Derived.Test.YthiocbcokfondaaGreatDoorQBunE
import Derived.Test.YthiocbcokfondaaGreatDoorQRegV
import Derived.Test.YthiocbcokfondaaGreatDoorQBunY
namespace Go.Proofs.YthiocbcokfondaaGreatDoor.Y
open Go.RowKit
def EK (v : KV) : List Ent := [.own v.m v.mc 93 2 v.k.ms.length (v.k.ms.flatMap mC), .own v.o v.oc 65 4 v.k.ob.length (v.k.ob.flatMap fC), .own v.i v.ic 9 1 v.k.ib.length (v.k.ib.flatMap sC)]
theorem vd (l : List KV) : ∀ e ∈ l.flatMap EK, tq e = false := fun e he => by
  obtain ⟨v, _, h⟩ := List.mem_flatMap.1 he
  simp only [EK, List.mem_cons, List.not_mem_nil, or_false] at h
  rcases h with rfl | rfl | rfl <;> rfl
theorem KOk.own {N : Nat} {w : World} {v : KV} (h : MemL N w (EK v)) : KOk (fun b => N ≤ b) w v := ⟨Rws.own iI h.1, Rws.own cT h.2.2.2.2.1, Rws.own fh h.2.2.1⟩
theorem pb {N : Nat} {w : World} {l : List KV} (h : MemL N w (l.flatMap EK)) {v : KV} (hv : v ∈ l) : MemL N w (EK v) := by
  induction l with
  | nil => cases hv
  | cons a l ih =>
    obtain ⟨h1, h2, _⟩ := MemL.split (M1 := EK a) h
    rcases List.mem_cons.1 hv with rfl | hv
    · exact h1
    · exact ih h2 hv
def EN (v : NV) : List Ent := .own v.p v.pc 3 1 v.c.pg.length (v.c.pg.flatMap iC) :: .own v.o v.oc 65 4 v.c.ou.length (v.c.ou.flatMap fC) :: .own v.x v.xc 39 22 v.kv.length (v.kv.flatMap KC) :: v.kv.flatMap EK
theorem CW (v : NV) : ∀ e ∈ EN v, tq e = false := fun e he => by
  rcases List.mem_cons.1 he with rfl | he
  · rfl
  · rcases List.mem_cons.1 he with rfl | he
    · rfl
    · rcases List.mem_cons.1 he with rfl | he
      · rfl
      · exact vd _ e he
theorem NOk.own {N : Nat} {w : World} {v : NV} (h : MemL N w (EN v)) (he : v.c.ks = v.kv.map (·.k)) : NOk (fun b => N ≤ b) w v :=
  ⟨Rws.own bi h.2.2.2.2.1, Rws.own fh h.2.2.1, Rws.own gA h.1, he, fun _ hq => KOk.own (pb h.2.2.2.2.2.2 hq)⟩
theorem en {l : List KV} {k : Nat} {v : KV} (h : l[k]? = some v) (u : KV) : (l.set k u)[k]? = some u := by
  rw [List.getElem?_set_self]
  exact (List.getElem?_eq_some_iff.1 h).1
attribute [local irreducible] Calls
set_option maxRecDepth 100000 in
set_option maxHeartbeats 16000000 in
theorem hY {A : Nat → Prop} (v : NV) (w : World) (hN : NOk A w v) (hz : yS v) : Calls Tryz.prog 38 #[.agg #[.int .i64 v.c.sd, .int .i64 v.c.nx, .int .i64 v.c.la, .int .i64 v.c.aw, .int .i64 v.c.sz, .int .i64 v.c.sw.size, .int .i64 v.c.sw.left, .int .i64 v.c.sw.held, .int .i64 v.c.rw.size, .int .i64 v.c.rw.left, .int .i64 v.c.rw.held, .slice v.x v.kv.length v.xc, .slice v.o v.c.ou.length v.oc, .slice v.p v.c.pg.length v.pc, .bool v.c.cl]] w fun e w' => ∃ v' : NV, (v'.c = v.c ∧ v'.kv.map (·.k) = v.kv.map (·.k)) ∧ e = .returned (.agg ⟨NC v'⟩) ∧ Made w w' (EN v') := by
  refine aQ Tryz.func38 rfl Tryz.ntmps38 J J ?_
  obtain ⟨hz1, hz2, hz3, hz4⟩ := hz
  refine ai ?_
  refine aa ?_
  (refine aV J J J J J J ?_; intro g1)
  (refine aG af J J J J J J ?_; intro g2)
  repeat' (first | refine ai ?_ | refine aa ?_ | refine ab ?_ | refine ag ?_ | ((refine' am rfl ?_ J J ?_); rotate_left; first | exact ak af J J J J | exact ae af 1 J J J J J))
  refine eC (σ := Option Addr × Nat) (fun _ => True) (fun p => .slice p.1 v.kv.length p.2) (fun p => [.own p.1 p.2 39 22 v.kv.length (v.kv.flatMap KC)]) rfl (av J J J J ⟨J, trivial⟩ rfl (by kernel_rfl)) (fun w1 hm => uO v.x v.kv v.xc w1 (hN.ks.below hm.below) (by omega)) J J ?_
  rintro ⟨xa, xc⟩ -
  dsimp only [List.cons_append, List.nil_append]
  repeat' (first | refine ai ?_ | refine aa ?_ | refine ab ?_ | refine aJ ?_ | refine ag ?_ | ((refine' am rfl ?_ J J ?_); rotate_left; first | exact ak af J J J J | exact ae af 2 J J J J J | exact bh af J J J J J J J) | refine aj af 2 J J J J J J J J J J J J ?_)
  refine cK (σ := Nat × List KV) (fun p => p.1 ≤ v.kv.length ∧ p.2.length = p.1 ∧ p.2.map (·.k) = (v.kv.take p.1).map (·.k)) (fun p => [(12, [], .int .i64 ((p.1 : Nat) : Int)), (11, [], .int .i64 ((v.kv.length : Nat) : Int)), (1, [], .pointer (some ⟨g1, 0, none⟩)), (2, [], .pointer (some ⟨g2, 0, none⟩))]) (fun p => .own xa xc 39 22 v.kv.length ((p.2 ++ v.kv.drop p.1).flatMap KC) :: .cl g2 28 [.int .i64 0, .int .i64 0, .int .i64 0, .int .i64 0, .int .i64 0, .int .i64 0, .int .i64 0, .int .i64 0, .int .i64 0, .int .i64 0, .int .i64 0, .slice none 0 0, .slice none 0 0, .slice none 0 0, .bool false] :: .cl g1 28 [.int .i64 v.c.sd, .int .i64 v.c.nx, .int .i64 v.c.la, .int .i64 v.c.aw, .int .i64 v.c.sz, .int .i64 v.c.sw.size, .int .i64 v.c.sw.left, .int .i64 v.c.sw.held, .int .i64 v.c.rw.size, .int .i64 v.c.rw.left, .int .i64 v.c.rw.held, .slice xa v.kv.length xc, .slice v.o v.c.ou.length v.oc, .slice v.p v.c.pg.length v.pc, .bool v.c.cl] :: p.2.flatMap EK) (fun p => v.kv.length - p.1) (0, []) [true, true, true] ⟨Nat.zero_le _, rfl, rfl⟩ ⟨J, J, J, J, trivial⟩ rfl ?_
  rintro ⟨j, d⟩ ⟨hj0, hd, hmap⟩
  dsimp only at hj0 hd hmap ⊢
  by_cases hj : j < v.kv.length
  · obtain ⟨u, hu0⟩ : ∃ u, v.kv[j]? = some u := ⟨v.kv[j], List.getElem?_eq_getElem hj⟩
    have hu := List.mem_of_getElem? hu0
    have hat := yO hd hu0
    obtain ⟨hk1, hk2, hk3⟩ := hN.ok u hu
    obtain ⟨hs1, hs2, hs3⟩ := hz4 u hu
    refine Cs 0 rfl (by omega) ?_
    rintro gx rfl
    repeat' (first | refine ai ?_ | refine aa ?_ | refine ab ?_ | refine ag ?_ | ((refine' am rfl ?_ J J ?_); rotate_left; exact aq af J J J J J J))
    refine aB rfl (by simp; omega) ?_
    repeat' (first | refine ai ?_ | refine aa ?_ | refine ab ?_ | refine ay ?_ | refine aJ ?_ | refine ag ?_ | ((refine' am rfl ?_ J J ?_); rotate_left; first | exact cm af (m := 22) j J J J J J J J J (fun _ => rfl) (fun _ => hj) | exact ak af J J J J | exact ae af 2 J J J J J))
    refine nc 19 [26, 31, 37] aD rfl (by kernel_rfl) ?_
    iterate 7 (((refine' qn rfl ?_ J J ?_); rotate_left; first | exact cC af 0 (v := .slice u.i u.k.ib.length u.ic) J J J J J J (fun _ => by rw [Nat.zero_add]; exact bk bi hat (k := 20) rfl) | exact ak af J J J J))
    refine iS (σ := Option Addr × Nat) (fun _ => True) (fun s => .slice s.1 u.k.ib.length s.2) (fun s => [.own s.1 s.2 9 1 u.k.ib.length (u.k.ib.flatMap sC)]) rfl (av J J J J ⟨J, trivial⟩ rfl (by kernel_rfl)) (fun w hm => (xe u.i u.k.ib u.ic w (hk2.below hm.below) (by omega)).mono fun e w1 h => oJ h) J J J J ?_
    iterate 4 (((refine' qn rfl ?_ J J ?_); rotate_left; first | exact cC af 0 (v := .slice u.o u.k.ob.length u.oc) J J J J J J (fun _ => by rw [Nat.zero_add]; exact bk bi hat (k := 21) rfl) | exact ak af J J J J))
    refine iS (σ := Option Addr × Nat) (fun _ => True) (fun s => .slice s.1 u.k.ob.length s.2) (fun s => [.own s.1 s.2 65 4 u.k.ob.length (u.k.ob.flatMap fC)]) rfl (av J J J J ⟨J, trivial⟩ rfl (by kernel_rfl)) (fun w hm => (qx u.o u.k.ob u.oc w (hk3.below hm.below) (by omega)).mono fun e w1 h => oJ h) J J J J ?_
    iterate 5 (((refine' qn rfl ?_ J J ?_); rotate_left; first | exact cC af 0 (v := .slice u.m u.k.ms.length u.mc) J J J J J J (fun _ => by rw [Nat.zero_add]; exact bk bi hat (k := 19) rfl) | exact ak af J J J J))
    refine iS (σ := Option Addr × Nat) (fun _ => True) (fun s => .slice s.1 u.k.ms.length s.2) (fun s => [.own s.1 s.2 93 2 u.k.ms.length (u.k.ms.flatMap mC)]) rfl (av J J J J ⟨J, trivial⟩ rfl (by kernel_rfl)) (fun w hm => (oK u.m u.k.ms u.mc w (hk1.below hm.below) (by omega)).mono fun e w1 h => oJ h) J J J J ?_
    refine vL ?_
    rintro ⟨pi, pic⟩ - ⟨po, poc⟩ - ⟨pm, pmc⟩ -
    dsimp only [List.cons_append, List.nil_append]
    repeat' (((refine' am rfl ?_ J J ?_); rotate_left; exact ak af J J J J))
    refine dk af 3 J J J J J J J J J (show jo _ (0 + j * 22 + 20) _ = _ from by rw [Nat.zero_add]; exact cW bi (d ++ v.kv.drop j) j 20 (u) ({ u with i := pi, ic := pic }) _ hat rfl) J J ?_
    repeat' (((refine' am rfl ?_ J J ?_); rotate_left; exact ak af J J J J))
    refine dk af 3 J J J J J J J J J (show jo _ (0 + j * 22 + 21) _ = _ from by rw [Nat.zero_add]; exact cW bi ((d ++ v.kv.drop j).set j { u with i := pi, ic := pic }) j 21 ({ u with i := pi, ic := pic }) ({ u with i := pi, ic := pic, o := po, oc := poc }) _ (en hat _) rfl) J J ?_
    repeat' (((refine' am rfl ?_ J J ?_); rotate_left; exact ak af J J J J))
    refine dk af 3 J J J J J J J J J (show jo _ (0 + j * 22 + 19) _ = _ from by rw [Nat.zero_add]; exact cW bi (((d ++ v.kv.drop j).set j { u with i := pi, ic := pic }).set j { u with i := pi, ic := pic, o := po, oc := poc }) j 19 ({ u with i := pi, ic := pic, o := po, oc := poc }) ({ u with i := pi, ic := pic, o := po, oc := poc, m := pm, mc := pmc }) _ (en (en hat _) _) rfl) J J ?_
    repeat' (first | refine aa ?_ | refine ab ?_ | refine ax ?_ | refine ag ?_ | ((refine' am rfl ?_ J J ?_); rotate_left; first | exact bN J J J J J (by omega) | exact ak af J J J J))
    refine fU (M' := .own (some ⟨gx, 0, none⟩) xc 39 22 v.kv.length (((d ++ [{ u with i := pi, ic := pic, o := po, oc := poc, m := pm, mc := pmc }]) ++ v.kv.drop (j + 1)).flatMap KC) :: .cl g2 28 [.int .i64 0, .int .i64 0, .int .i64 0, .int .i64 0, .int .i64 0, .int .i64 0, .int .i64 0, .int .i64 0, .int .i64 0, .int .i64 0, .int .i64 0, .slice none 0 0, .slice none 0 0, .slice none 0 0, .bool false] :: .cl g1 28 [.int .i64 v.c.sd, .int .i64 v.c.nx, .int .i64 v.c.la, .int .i64 v.c.aw, .int .i64 v.c.sz, .int .i64 v.c.sw.size, .int .i64 v.c.sw.left, .int .i64 v.c.sw.held, .int .i64 v.c.rw.size, .int .i64 v.c.rw.left, .int .i64 v.c.rw.held, .slice (some ⟨gx, 0, none⟩) v.kv.length xc, .slice v.o v.c.ou.length v.oc, .slice v.p v.c.pg.length v.pc, .bool v.c.cl] :: (d ++ [{ u with i := pi, ic := pic, o := po, oc := poc, m := pm, mc := pmc }]).flatMap EK) (fun w hM => ?_) ?_
    · rw [List.set_set, List.set_set, vR hd hu0] at hM
      have h1 := hM.perm (E9 (EK { u with i := pi, ic := pic, o := po, oc := poc, m := pm, mc := pmc }) [_, _, _] (d.flatMap EK))
      rw [List.flatMap_append (xs := d), List.flatMap_singleton (f := EK)]
      exact h1
    · refine bA (j + 1, d ++ [{ u with i := pi, ic := pic, o := po, oc := poc, m := pm, mc := pmc }]) [] ⟨hj, by simp [hd], by rw [List.take_add_one, hu0]; simp [hmap]⟩ (show v.kv.length - (j + 1) < v.kv.length - j by omega) ⟨J, J, J, J, trivial⟩ rfl
  · have hjl : j = v.kv.length := by omega
    subst hjl
    repeat' (first | refine ai ?_ | refine aa ?_ | refine ab ?_ | refine ag ?_ | ((refine' am rfl ?_ J J ?_); rotate_left; exact aq af J J J J J J))
    refine ar rfl (by simp) ?_
    repeat' (first | refine ai ?_ | refine ab ?_ | refine bq ?_ | refine aN ?_ | refine aT ?_)
    refine nc 7 [48, 51] aD rfl (by kernel_rfl) ?_
    iterate 2 (((refine' qn rfl ?_ J J ?_); rotate_left; first | exact ak af J J J J | exact ae af 2 J J J J J))
    refine iS (σ := Option Addr × Nat) (fun _ => True) (fun s => .slice s.1 v.c.ou.length s.2) (fun s => [.own s.1 s.2 65 4 v.c.ou.length (v.c.ou.flatMap fC)]) rfl (av J J J J ⟨J, trivial⟩ rfl (by kernel_rfl)) (fun w hm => (qx v.o v.c.ou v.oc w (hN.ou.below hm.below) (by omega)).mono fun e w1 h => oJ h) J J J J ?_
    iterate 2 (((refine' qn rfl ?_ J J ?_); rotate_left; first | exact ak af J J J J | exact ae af 2 J J J J J))
    refine iS (σ := Option Addr × Nat) (fun _ => True) (fun s => .slice s.1 v.c.pg.length s.2) (fun s => [.own s.1 s.2 3 1 v.c.pg.length (v.c.pg.flatMap iC)]) rfl (av J J J J ⟨J, trivial⟩ rfl (by kernel_rfl)) (fun w hm => (xf v.p v.c.pg v.pc w (hN.pg.below hm.below) (by omega)).mono fun e w1 h => oJ h) J J J J ?_
    ((refine' qn rfl ?_ J J ?_); rotate_left; exact ak af J J J J)
    refine vL ?_
    rintro ⟨oa, oc⟩ - ⟨pa, pc⟩ -
    dsimp only [List.cons_append, List.nil_append]
    repeat' (first | refine ai ?_ | refine aa ?_ | refine ab ?_ | refine aA ?_ | refine ag ?_ | ((refine' am rfl ?_ J J ?_); rotate_left; first | exact ak af J J J J | exact ae af 4 J J J J J) | refine aj af 3 J J J J J J J J J J J J ?_ | refine aj af 4 J J J J J J J J J J J J ?_)
    (refine aC af (fun _ => 3) J J ⟨J, trivial⟩ rfl fun w1 hm => ⟨⟨v.c, xa, xc, d, oa, oc, pa, pc⟩, ⟨rfl, ?_⟩, ?_, ?_⟩)
    · rw [hmap, List.take_length]
    · show Ending.returned (Value.agg ⟨[.int .i64 v.c.sd, .int .i64 v.c.nx, .int .i64 v.c.la, .int .i64 v.c.aw, .int .i64 v.c.sz, .int .i64 v.c.sw.size, .int .i64 v.c.sw.left, .int .i64 v.c.sw.held, .int .i64 v.c.rw.size, .int .i64 v.c.rw.left, .int .i64 v.c.rw.held, .slice xa v.kv.length xc, .slice oa v.c.ou.length oc, .slice pa v.c.pg.length pc, .bool v.c.cl]⟩) = _
      rw [← hd]; rfl
    · refine Made.own ?_ (CW _)
      have h1 := hm.mask [true, true, true, false, false] rfl
      rw [List.drop_length, List.append_nil] at h1
      unfold EN
      rw [show (⟨v.c, xa, xc, d, oa, oc, pa, pc⟩ : NV).kv = d from rfl, hd]
      exact h1
end Go.Proofs.YthiocbcokfondaaGreatDoor.Y
