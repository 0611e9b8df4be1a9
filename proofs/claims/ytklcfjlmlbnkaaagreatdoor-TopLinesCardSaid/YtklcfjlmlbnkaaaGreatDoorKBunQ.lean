/- Texts of this claim merged into one: KCn3, KFlow, KRead3, KChk, KCk. -/
import Derived.Test.YtklcfjlmlbnkaaaGreatDoorKBunT
import Derived.Test.YtklcfjlmlbnkaaaGreatDoorKBunD
import Derived.Test.YtklcfjlmlbnkaaaGreatDoorKRegV
import Derived.Test.YtklcfjlmlbnkaaaGreatDoorKBunI
import Derived.WalkSpells
import Derived.WalkLawsBesides
import Derived.Test.YtklcfjlmlbnkaaaGreatDoorKHr
import Derived.Test.YtklcfjlmlbnkaaaGreatDoorKHp
namespace Go.Proofs.YtklcfjlmlbnkaaaGreatDoor.Y
open Go.RowKit
theorem mx {O : Nat → Prop} {w w' : World} {e : Ending} {T : TypeId} {size n : Nat} {xs : List Value} (h : ∃ p : Option Addr × Nat, True ∧ e = .returned (.slice p.1 n p.2) ∧ Made w w' [.own p.1 p.2 T size n xs]) :
    (∃ s : Option Addr × Nat, ∃ g : Nat → Prop, True ∧ e = .returned (.slice s.1 n s.2) ∧ MemL w.heap.size w' [.own s.1 s.2 T size n xs] ∧ (∀ f ∈ [Ent.own s.1 s.2 T size n xs], ∀ b, f.mut b → g b) ∧ (∀ f ∈ [Ent.own s.1 s.2 T size n xs], ∀ b, f.foot b → g b ∨ O b) ∧ ∀ b, g b → w.heap.size ≤ b ∧ b < w'.heap.size) ∧ Below w.heap.size w w' := by
  obtain ⟨⟨a, c⟩, _, h2, h3⟩ := h
  refine ⟨⟨(a, c), (Ent.own a c T size n xs).foot, trivial, h2, h3.mem, fun f hf b hb => ?_, fun f hf b hb => ?_, fun b hb => ⟨h3.new _ (List.mem_cons_self ..) b hb, Ent.ok.foot_lt h3.mem.1 hb⟩⟩, h3.below⟩
  · obtain rfl := List.mem_singleton.1 hf
    exact Ent.mut_foot hb
  · obtain rfl := List.mem_singleton.1 hf
    exact .inl hb
def EK (v : KV) : List Ent := [.own v.m v.mc 85 2 v.k.ms.length (v.k.ms.flatMap mC), .own v.o v.oc 74 4 v.k.ob.length (v.k.ob.flatMap fC), .own v.i v.ic 9 1 v.k.ib.length (v.k.ib.flatMap sC)]
theorem wA (l : List KV) : ∀ e ∈ l.flatMap EK, ue e = false := fun e he => by
  obtain ⟨v, _, h⟩ := List.mem_flatMap.1 he
  simp only [EK, List.mem_cons, List.not_mem_nil, or_false] at h
  rcases h with rfl | rfl | rfl <;> rfl
theorem KOk.own {N : Nat} {w : World} {v : KV} (h : MemL N w (EK v)) : KOk (fun b => N ≤ b) w v := ⟨Rws.own iK h.1, Rws.own eb h.2.2.2.2.1, Rws.own ej h.2.2.1⟩
theorem qU {N : Nat} {w : World} {l : List KV} (h : MemL N w (l.flatMap EK)) {v : KV} (hv : v ∈ l) : MemL N w (EK v) := by
  induction l with
  | nil => cases hv
  | cons a l ih =>
    obtain ⟨h1, h2, _⟩ := MemL.split (M1 := EK a) h
    rcases List.mem_cons.1 hv with rfl | hv
    · exact h1
    · exact ih h2 hv
def EN (v : NV) : List Ent := .own v.p v.pc 3 1 v.c.pg.length (v.c.pg.flatMap iC) :: .own v.o v.oc 74 4 v.c.ou.length (v.c.ou.flatMap fC) :: .own v.x v.xc 87 22 v.kv.length (v.kv.flatMap KC) :: v.kv.flatMap EK
theorem FD (v : NV) : ∀ e ∈ EN v, ue e = false := fun e he => by
  rcases List.mem_cons.1 he with rfl | he
  · rfl
  · rcases List.mem_cons.1 he with rfl | he
    · rfl
    · rcases List.mem_cons.1 he with rfl | he
      · rfl
      · exact wA _ e he
theorem NOk.own {N : Nat} {w : World} {v : NV} (h : MemL N w (EN v)) (he : v.c.ks = v.kv.map (·.k)) : NOk (fun b => N ≤ b) w v :=
  ⟨Rws.own aK h.2.2.2.2.1, Rws.own ej h.2.2.1, Rws.own fR h.1, he, fun _ hq => KOk.own (qU h.2.2.2.2.2.2 hq)⟩
theorem dH {l : List KV} {k : Nat} {v : KV} (h : l[k]? = some v) (u : KV) : (l.set k u)[k]? = some u := by
  rw [List.getElem?_set_self]
  exact (List.getElem?_eq_some_iff.1 h).1
attribute [local irreducible] Calls
set_option maxRecDepth 100000 in
set_option maxHeartbeats 16000000 in
theorem jg {A : Nat → Prop} (v : NV) (w : World) (hN : NOk A w v) (hz : DP v) : Calls Tryz.prog 23 #[.agg ⟨NC v⟩] w fun e w' => ∃ v' : NV, (v'.c = v.c ∧ v'.kv.map (·.k) = v.kv.map (·.k)) ∧ e = .returned (.agg ⟨NC v'⟩) ∧ Made w w' (EN v') := by
  refine aA Tryz.func23 rfl Tryz.ntmps23 J J ?_
  obtain ⟨hz1, hz2, hz3, hz4⟩ := hz
  refine bc ?_
  refine aH ?_
  (refine bx ?_; intro g1)
  (refine al ?_; intro g2)
  repeat' refine nx ?_
  refine cQ (σ := Option Addr × Nat) (fun _ => True) (fun p => .slice p.1 v.kv.length p.2) (fun p => [.own p.1 p.2 87 22 v.kv.length (v.kv.flatMap KC)]) rfl (ap J J J J ⟨J, trivial⟩ rfl (by kernel_rfl)) (fun w1 hm => wu v.x v.kv v.xc w1 (hN.ks.below hm.below) (by omega)) J J ?_
  rintro ⟨xa, xc⟩ -
  dsimp only [List.cons_append, List.nil_append]
  repeat' refine nx ?_
  refine bP (σ := Nat × List KV) (fun p => p.1 ≤ v.kv.length ∧ p.2.length = p.1 ∧ p.2.map (·.k) = (v.kv.take p.1).map (·.k)) (fun p => [(12, [], .int .i64 ((p.1 : Nat) : Int)), (11, [], .int .i64 ((v.kv.length : Nat) : Int)), (1, [], .pointer (some ⟨g1, 0, none⟩)), (2, [], .pointer (some ⟨g2, 0, none⟩))]) (fun p => .own xa xc 87 22 v.kv.length ((p.2 ++ v.kv.drop p.1).flatMap KC) :: .cl g2 34 [.int .i64 0, .int .i64 0, .int .i64 0, .int .i64 0, .int .i64 0, .int .i64 0, .int .i64 0, .int .i64 0, .int .i64 0, .int .i64 0, .int .i64 0, .slice none 0 0, .slice none 0 0, .slice none 0 0, .bool false] :: .cl g1 34 [.int .i64 v.c.sd, .int .i64 v.c.nx, .int .i64 v.c.la, .int .i64 v.c.aw, .int .i64 v.c.sz, .int .i64 v.c.sw.size, .int .i64 v.c.sw.left, .int .i64 v.c.sw.held, .int .i64 v.c.rw.size, .int .i64 v.c.rw.left, .int .i64 v.c.rw.held, .slice xa v.kv.length xc, .slice v.o v.c.ou.length v.oc, .slice v.p v.c.pg.length v.pc, .bool v.c.cl] :: p.2.flatMap EK) (fun p => v.kv.length - p.1) (0, []) [true, true, true] ⟨Nat.zero_le _, rfl, rfl⟩ ⟨J, J, J, J, trivial⟩ rfl ?_
  rintro ⟨j, d⟩ ⟨hj0, hd, hmap⟩
  dsimp only at hj0 hd hmap ⊢
  by_cases hj : j < v.kv.length
  · obtain ⟨u, hu0⟩ : ∃ u, v.kv[j]? = some u := ⟨v.kv[j], List.getElem?_eq_getElem hj⟩
    have hu := List.mem_of_getElem? hu0
    have hat := Be hd hu0
    obtain ⟨hk1, hk2, hk3⟩ := hN.ok u hu
    obtain ⟨hs1, hs2, hs3⟩ := hz4 u hu
    refine oH 0 rfl (by omega) ?_
    rintro gx rfl
    repeat' refine nx ?_
    refine aq rfl (by simp; omega) ?_
    repeat' (first | refine vx rfl (ia (m := 22) j hj) ?_ | refine nx ?_)
    refine cU (fun _ => False) 19 [26, 31, 37] [] [] (fun _ _ _ h => h.elim) am rfl (by kernel_rfl) ?_
    iterate 7 (((refine' ff rfl ?_ J J J ?_); rotate_left; first | exact bM af 0 (v := .slice u.i u.k.ib.length u.ic) J J J J J J (fun _ => by rw [Nat.zero_add]; exact aJ aK hat (k := 20) rfl) | exact aI af J J J J))
    refine gE (σ := Option Addr × Nat) (fun _ => True) (fun s => .slice s.1 u.k.ib.length s.2) (fun s => [.own s.1 s.2 9 1 u.k.ib.length (u.k.ib.flatMap sC)]) rfl (ap J J J J ⟨J, trivial⟩ rfl (by kernel_rfl)) (fun w hm => (zg u.i u.k.ib u.ic w (hk2.below hm.below) (by omega)).mono fun e w1 h => mx h) J J J J J ?_
    iterate 4 (((refine' ff rfl ?_ J J J ?_); rotate_left; first | exact bM af 0 (v := .slice u.o u.k.ob.length u.oc) J J J J J J (fun _ => by rw [Nat.zero_add]; exact aJ aK hat (k := 21) rfl) | exact aI af J J J J))
    refine gE (σ := Option Addr × Nat) (fun _ => True) (fun s => .slice s.1 u.k.ob.length s.2) (fun s => [.own s.1 s.2 74 4 u.k.ob.length (u.k.ob.flatMap fC)]) rfl (ap J J J J ⟨J, trivial⟩ rfl (by kernel_rfl)) (fun w hm => (qT u.o u.k.ob u.oc w (hk3.below hm.below) (by omega)).mono fun e w1 h => mx h) J J J J J ?_
    iterate 5 (((refine' ff rfl ?_ J J J ?_); rotate_left; first | exact bM af 0 (v := .slice u.m u.k.ms.length u.mc) J J J J J J (fun _ => by rw [Nat.zero_add]; exact aJ aK hat (k := 19) rfl) | exact aI af J J J J))
    refine gE (σ := Option Addr × Nat) (fun _ => True) (fun s => .slice s.1 u.k.ms.length s.2) (fun s => [.own s.1 s.2 85 2 u.k.ms.length (u.k.ms.flatMap mC)]) rfl (ap J J J J ⟨J, trivial⟩ rfl (by kernel_rfl)) (fun w hm => (pe u.m u.k.ms u.mc w (hk1.below hm.below) (by omega)).mono fun e w1 h => mx h) J J J J J ?_
    refine gy ?_
    refine fE ?_
    rintro ⟨pi, pic⟩ -
    refine fE ?_
    rintro ⟨po, poc⟩ -
    refine fE ?_
    rintro ⟨pm, pmc⟩ -
    refine jB ?_
    dsimp only [List.cons_append, List.nil_append]
    repeat' refine cV ?_
    refine cF af 3 J J J J J J J J J (show jv _ (0 + j * 22 + 20) _ = _ from by rw [Nat.zero_add]; exact cy aK (d ++ v.kv.drop j) j 20 (u) ({ u with i := pi, ic := pic }) _ hat rfl) J J ?_
    repeat' refine cV ?_
    refine cF af 3 J J J J J J J J J (show jv _ (0 + j * 22 + 21) _ = _ from by rw [Nat.zero_add]; exact cy aK ((d ++ v.kv.drop j).set j { u with i := pi, ic := pic }) j 21 ({ u with i := pi, ic := pic }) ({ u with i := pi, ic := pic, o := po, oc := poc }) _ (dH hat _) rfl) J J ?_
    repeat' refine cV ?_
    refine cF af 3 J J J J J J J J J (show jv _ (0 + j * 22 + 19) _ = _ from by rw [Nat.zero_add]; exact cy aK (((d ++ v.kv.drop j).set j { u with i := pi, ic := pic }).set j { u with i := pi, ic := pic, o := po, oc := poc }) j 19 ({ u with i := pi, ic := pic, o := po, oc := poc }) ({ u with i := pi, ic := pic, o := po, oc := poc, m := pm, mc := pmc }) _ (dH (dH hat _) _) rfl) J J ?_
    repeat' (first | refine vx rfl (bd J J J J J (by omega)) ?_ | refine cV ?_)
    refine gk (M' := .own (some ⟨gx, 0, none⟩) xc 87 22 v.kv.length (((d ++ [{ u with i := pi, ic := pic, o := po, oc := poc, m := pm, mc := pmc }]) ++ v.kv.drop (j + 1)).flatMap KC) :: .cl g2 34 [.int .i64 0, .int .i64 0, .int .i64 0, .int .i64 0, .int .i64 0, .int .i64 0, .int .i64 0, .int .i64 0, .int .i64 0, .int .i64 0, .int .i64 0, .slice none 0 0, .slice none 0 0, .slice none 0 0, .bool false] :: .cl g1 34 [.int .i64 v.c.sd, .int .i64 v.c.nx, .int .i64 v.c.la, .int .i64 v.c.aw, .int .i64 v.c.sz, .int .i64 v.c.sw.size, .int .i64 v.c.sw.left, .int .i64 v.c.sw.held, .int .i64 v.c.rw.size, .int .i64 v.c.rw.left, .int .i64 v.c.rw.held, .slice (some ⟨gx, 0, none⟩) v.kv.length xc, .slice v.o v.c.ou.length v.oc, .slice v.p v.c.pg.length v.pc, .bool v.c.cl] :: (d ++ [{ u with i := pi, ic := pic, o := po, oc := poc, m := pm, mc := pmc }]).flatMap EK) (fun w hM => ?_) ?_
    · rw [List.set_set, List.set_set, xJ hd hu0] at hM
      have h1 := hM.perm (IL (EK { u with i := pi, ic := pic, o := po, oc := poc, m := pm, mc := pmc }) [_, _, _] (d.flatMap EK))
      rw [List.flatMap_append (xs := d), List.flatMap_singleton (f := EK)]
      exact h1
    · refine aU (j + 1, d ++ [{ u with i := pi, ic := pic, o := po, oc := poc, m := pm, mc := pmc }]) [] ⟨hj, by simp [hd], by rw [List.take_add_one, hu0]; simp [hmap]⟩ (show v.kv.length - (j + 1) < v.kv.length - j by omega) ⟨J, J, J, J, trivial⟩ rfl
  · have hjl : j = v.kv.length := by omega
    subst hjl
    repeat' refine nx ?_
    refine ai rfl (by simp) ?_
    repeat' refine nx ?_
    refine cU (fun _ => False) 7 [48, 51] [] [] (fun _ _ _ h => h.elim) am rfl (by kernel_rfl) ?_
    iterate 2 (((refine' ff rfl ?_ J J J ?_); rotate_left; first | exact aI af J J J J | exact ab af 2 J J J J J))
    refine gE (σ := Option Addr × Nat) (fun _ => True) (fun s => .slice s.1 v.c.ou.length s.2) (fun s => [.own s.1 s.2 74 4 v.c.ou.length (v.c.ou.flatMap fC)]) rfl (ap J J J J ⟨J, trivial⟩ rfl (by kernel_rfl)) (fun w hm => (qT v.o v.c.ou v.oc w (hN.ou.below hm.below) (by omega)).mono fun e w1 h => mx h) J J J J J ?_
    iterate 2 (((refine' ff rfl ?_ J J J ?_); rotate_left; first | exact aI af J J J J | exact ab af 2 J J J J J))
    refine gE (σ := Option Addr × Nat) (fun _ => True) (fun s => .slice s.1 v.c.pg.length s.2) (fun s => [.own s.1 s.2 3 1 v.c.pg.length (v.c.pg.flatMap iC)]) rfl (ap J J J J ⟨J, trivial⟩ rfl (by kernel_rfl)) (fun w hm => (zh v.p v.c.pg v.pc w (hN.pg.below hm.below) (by omega)).mono fun e w1 h => mx h) J J J J J ?_
    ((refine' ff rfl ?_ J J J ?_); rotate_left; exact aI af J J J J)
    refine gy ?_
    refine fE ?_
    rintro ⟨oa, oc⟩ -
    refine fE ?_
    rintro ⟨pa, pc⟩ -
    refine jB ?_
    dsimp only [List.cons_append, List.nil_append]
    repeat' refine nx ?_
    (refine rt ?_; refine fun w1 hm => ⟨⟨v.c, xa, xc, d, oa, oc, pa, pc⟩, ⟨rfl, ?_⟩, ?_, ?_⟩)
    · rw [hmap, List.take_length]
    · show Ending.returned (Value.agg ⟨[.int .i64 v.c.sd, .int .i64 v.c.nx, .int .i64 v.c.la, .int .i64 v.c.aw, .int .i64 v.c.sz, .int .i64 v.c.sw.size, .int .i64 v.c.sw.left, .int .i64 v.c.sw.held, .int .i64 v.c.rw.size, .int .i64 v.c.rw.left, .int .i64 v.c.rw.held, .slice xa v.kv.length xc, .slice oa v.c.ou.length oc, .slice pa v.c.pg.length pc, .bool v.c.cl]⟩) = _
      rw [← hd]; rfl
    · refine Made.own ?_ (FD _)
      have h1 := hm.mask [true, true, true, false, false] rfl
      rw [List.drop_length, List.append_nil] at h1
      unfold EN
      rw [show (⟨v.c, xa, xc, d, oa, oc, pa, pc⟩ : NV).kv = d from rfl, hd]
      exact h1
end Go.Proofs.YtklcfjlmlbnkaaaGreatDoor.Y
namespace Go.Proofs.YtklcfjlmlbnkaaaGreatDoor
open Go.RowKit
abbrev bS (w : WinV) : Array Value := #[.int .i64 w.size, .int .i64 w.left, .int .i64 w.held]
abbrev WT : TypeId := 29
abbrev CT : TypeId := 194
theorem lL : AggT Tryz.prog WT 3 := ⟨by kernel_rfl, by kernel_rfl⟩
theorem GT {a b : Bool} (h : a = b) : Ending.returned (.bool a) = .returned (.bool b) := by rw [h]
theorem lM (w : World) (o : Obj) : Below w.heap.size w (w.alloc o) := (Below.refl _ _).alloc (Nat.le_refl _) _
theorem Bk.new1 (w : World) (o : Obj) (t : TypeId) (cs : Array Value) : Bk ((w.alloc o).alloc (.cells cs t)) (w.heap.size + 1) t cs := by
  have h := Bk.new (w.alloc o) t cs
  rw [show (w.alloc o).heap.size = w.heap.size + 1 by simp] at h; exact h
set_option maxHeartbeats 1000000 in
theorem gZ (x : WinV) (w : World) : Calls Tryz.prog 102 #[.agg (bS x)] w fun e w' => e = .returned (.bool (aS x)) ∧ Below w.heap.size w w' := by
  obtain ⟨a, b, c⟩ := x
  go_enter Tryz.func102, Tryz.ntmps102
  go_wp2
  all_goals
    go_ret
    refine ⟨GT ?_, lM _ _⟩
    unfold aS
    rw [Bool.eq_iff_iff]
    simp
    omega
def so (b : Nat) (l n : Int) (w : World) (e : Ending) (w' : World) : Prop := (e = .returned (.int .i64 1) ∧ n < 0 ∧ w' = w) ∨ (e = .returned (.int .i64 22) ∧ 0 ≤ n ∧ l < n ∧ w' = w) ∨ (e = .returned (.int .i64 0) ∧ 0 ≤ n ∧ n ≤ l ∧ w' = w.setCell ⟨b, 1, none⟩ (.int .i64 (l - n)))
def xR (b : Nat) (s l h n : Int) (w : World) (e : Ending) (w' : World) : Prop := ∃ m, ((e = .returned (.int .i64 1) ∧ n < 1 ∧ l = m) ∨ (e = .returned (.int .i64 6) ∧ 1 ≤ n ∧ 1048576 - l - h < n ∧ l = m) ∨ (e = .returned (.int .i64 0) ∧ 1 ≤ n ∧ n ≤ 1048576 - l - h ∧ l + n = m)) ∧ Bk w' b CT #[.int .i64 s, .int .i64 m, .int .i64 h] ∧ w.grownBy w' (some b)
def qV (b : Nat) (l h n : Int) (w : World) (e : Ending) (w' : World) : Prop := (e = .returned (.int .i64 1) ∧ n < 0 ∧ w' = w) ∨ (e = .returned (.int .i64 22) ∧ 0 ≤ n ∧ l < n ∧ w' = w) ∨ (e = .returned (.int .i64 0) ∧ 0 ≤ n ∧ n ≤ l ∧ w' = (w.setCell ⟨b, 1, none⟩ (.int .i64 (l - n))).setCell ⟨b, 2, none⟩ (.int .i64 (h + n)))
set_option maxHeartbeats 1000000 in
theorem ux (b : Nat) (s l h n : Int) (w : World) (hl : 0 ≤ l ∧ l ≤ 1048576) (hk : Bk w b CT #[.int .i64 s, .int .i64 l, .int .i64 h]) :
    Calls Tryz.prog 110 #[.pointer (some ⟨b, 0, none⟩), .int .i64 n] w (so b l n w) := by
  have c1 : w.cell? ⟨b, 1, none⟩ = some (.int .i64 l) := hk.at_ 1 rfl
  have cf := hk.free
  clear hk
  obtain ⟨h1, h2⟩ := hl
  by_cases a : n < 0
  · go_enter Tryz.func110, Tryz.ntmps110
    go_wp2
    go_ret
    exact Or.inl ⟨rfl, a, rfl⟩
  · by_cases c : l < n
    · go_enter Tryz.func110, Tryz.ntmps110
      go_wp2
      go_ret
      exact Or.inr (Or.inl ⟨rfl, by omega, c, rfl⟩)
    · go_enter Tryz.func110, Tryz.ntmps110
      go_wp2
      go_ret
      exact Or.inr (Or.inr ⟨rfl, by omega, by omega, rfl⟩)
set_option maxHeartbeats 1000000 in
theorem Br (b : Nat) (s l h n : Int) (w : World) (hl : 0 ≤ l ∧ 0 ≤ h ∧ l + h ≤ 1048576) (hk : Bk w b CT #[.int .i64 s, .int .i64 l, .int .i64 h]) :
    Calls Tryz.prog 113 #[.pointer (some ⟨b, 0, none⟩), .int .i64 n] w (xR b s l h n w) := by
  have c1 : w.cell? ⟨b, 1, none⟩ = some (.int .i64 l) := hk.at_ 1 rfl
  have c2 : w.cell? ⟨b, 2, none⟩ = some (.int .i64 h) := hk.at_ 2 rfl
  have cf := hk.free
  have HK := Lib.hid hk
  clear hk
  obtain ⟨h1, h2, h3⟩ := hl
  by_cases a : n < 1
  · go_enter Tryz.func113, Tryz.ntmps113
    go_wp2
    go_ret
    exact ⟨l, Or.inl ⟨rfl, a, rfl⟩, HK.out, lF _ _⟩
  · by_cases c : 1048576 - l - h < n
    · have hd := decide_eq_true c
      have HF := Lib.hid (show 1 ≤ n by omega)
      have hw1 : IntKind.i64.wrap (1048576 - l) = 1048576 - l := IntWalk.i64_in _ (by omega)
      have hw2 : IntKind.i64.wrap (1048576 - l - h) = 1048576 - l - h := IntWalk.i64_in _ (by omega)
      go_enter Tryz.func113, Tryz.ntmps113
      go_wp2_with fail
      go_quiet (fail)
      clear hw1 hw2
      go_wp2_with fail
      go_ret
      exact ⟨l, Or.inr (Or.inl ⟨rfl, HF.out, c, rfl⟩), HK.out, iv ⟨rfl, rfl, rfl, Nat.le_refl _, fun _ _ => rfl⟩⟩
    · have hd := decide_eq_false c
      have c' : n ≤ 1048576 - l - h := by omega
      have HF := Lib.hid (show 1 ≤ n by omega)
      have hw1 : IntKind.i64.wrap (1048576 - l) = 1048576 - l := IntWalk.i64_in _ (by omega)
      have hw2 : IntKind.i64.wrap (1048576 - l - h) = 1048576 - l - h := IntWalk.i64_in _ (by omega)
      go_enter Tryz.func113, Tryz.ntmps113
      go_wp2_with fail
      go_quiet (fail)
      clear hw1 hw2
      have c1 : ((w.drewN nq).cell? ⟨b, 1, none⟩) = some (.int .i64 l) := HK.out.at_ 1 rfl
      have cf : ∀ i, (w.drewN nq).frozen? ⟨b, i, none⟩ = false := HK.out.free
      go_wp2_with fail
      go_ret
      exact ⟨l + n, Or.inr (Or.inr ⟨rfl, HF.out, c', rfl⟩), Bk.put (w := w.drewN nq) HK.out 1 _, iV (a := w) (b := w.drewN nq) (iv (a := w) ⟨rfl, rfl, rfl, Nat.le_refl _, fun _ _ => rfl⟩) _ _⟩
set_option maxHeartbeats 1000000 in
theorem wB (b : Nat) (s l h n : Int) (w : World) (hl : 0 ≤ l ∧ 0 ≤ h ∧ l + h ≤ 1048576) (hk : Bk w b CT #[.int .i64 s, .int .i64 l, .int .i64 h]) :
    Calls Tryz.prog 126 #[.pointer (some ⟨b, 0, none⟩), .int .i64 n] w (qV b l h n w) := by
  have HT := Lib.hid (ux b s l h n w (by omega) hk)
  have HK := Lib.hid hk; clear hk
  obtain ⟨h1, h2, h3⟩ := hl
  go_enter Tryz.func126, Tryz.ntmps126
  go_wp2_with fail
  refine HT.out.mono ?_; intro e w1 hE; unfold so at hE; revert e w1 hE
  rintro e w1 (⟨rfl, a, rfl⟩ | ⟨rfl, a, a2, rfl⟩ | ⟨rfl, a, a2, rfl⟩)
  · go_wp2
    go_ret
    exact Or.inl ⟨rfl, a, rfl⟩
  · go_wp2
    go_ret
    exact Or.inr (Or.inl ⟨rfl, a, a2, rfl⟩)
  · have HK2 := Lib.hid (HK.out.put 1 (.int .i64 (l - n)))
    have c2 : (w.setCell ⟨b, 1, none⟩ (.int .i64 (l - n))).cell? ⟨b, 2, none⟩ = some (.int .i64 h) := HK2.out.at_ 2 rfl
    have cf := HK2.out.free
    go_wp2
    go_ret
    exact Or.inr (Or.inr ⟨rfl, a, a2, rfl⟩)
theorem ce {w : World} {g : Nat} {T : TypeId} {cs : Array Value} (h : Bk w g T cs) (hc : cs.size = 3) (a b c : Value) : Bk (((w.setCell ⟨g, 0, none⟩ a).setCell ⟨g, 1, none⟩ b).setCell ⟨g, 2, none⟩ c) g T #[a, b, c] := by
  have h2 := ((h.put 0 a).put 1 b).put 2 c
  obtain ⟨l⟩ := cs
  match l, hc with
  | [x0, x1, x2], _ => exact h2
theorem bz {B : Nat} {a w : World} (h : Below B a w) {b : Nat} (hb : B ≤ b) (x0 x1 x2 : Value) : Below B a (((w.setCell ⟨b, 0, none⟩ x0).setCell ⟨b, 1, none⟩ x1).setCell ⟨b, 2, none⟩ x2) :=
  ((h.setCell hb x0).setCell hb x1).setCell hb x2
theorem uy (b : Nat) (w : World) : Calls Tryz.prog 109 #[.pointer (some ⟨b, 0, none⟩)] w fun e w' => e = .returned (.func (.func 110) #[.pointer (some ⟨b, 0, none⟩)] #[]) ∧ w = w' := by
  go_enter Tryz.func109, Tryz.ntmps109
  go_wp2
  go_ret
  exact ⟨rfl, rfl⟩
set_option maxHeartbeats 2000000 in
theorem qm (x : WinV) (n : Int) (w : World) : Calls Tryz.prog 108 #[.agg (bS x), .int .i64 n, .func (.func 109) #[] #[]] w fun e w' => e = .returned (.tuple #[.agg (bS (cS x n).win), .int .i64 (cS x n).err]) ∧ Below w.heap.size w w' := by
  have HV := Lib.hid (fun w => gZ x w)
  obtain ⟨a, b, c⟩ := x
  have HB0 := Lib.hid (show Below w.heap.size w ((w.alloc (.cells #[.int .i64 a, .int .i64 b, .int .i64 c] WT)).alloc (.cells #[.int .i64 0, .int .i64 0, .int .i64 0] WT)) from (lM w _).alloc (by simp) _)
  have HK0 := Lib.hid ((Bk.new w WT #[.int .i64 a, .int .i64 b, .int .i64 c]).more (.cells #[.int .i64 0, .int .i64 0, .int .i64 0] WT))
  have HR0 := Lib.hid (Bk.new1 w (.cells #[.int .i64 a, .int .i64 b, .int .i64 c] WT) WT #[.int .i64 0, .int .i64 0, .int .i64 0])
  cases hv : aS ⟨a, b, c⟩ with
  | false =>
    rw [hv] at HV
    have HS := Lib.hid (show cS ⟨a, b, c⟩ n = ⟨⟨a, b, c⟩, 1⟩ by unfold cS; rw [if_pos (.inl hv)])
    clear hv
    go_enter Tryz.func108, Tryz.ntmps108
    go_wp2_with fail
    refine (HV.out _).mono ?_; rintro e w1 ⟨rfl, hb1⟩
    have HB1 := Lib.hid (HB0.out.trans (hb1.mono HB0.out.size)); have HK1 := Lib.hid (HK0.out.keep hb1); have HR1 := Lib.hid (HR0.out.keep hb1); clear hb1
    have k0 : w1.cell? ⟨w.heap.size, 0, none⟩ = some (.int .i64 a) := HK1.out.at_ 0 rfl
    have k1 : w1.cell? ⟨w.heap.size, 1, none⟩ = some (.int .i64 b) := HK1.out.at_ 1 rfl
    have k2 : w1.cell? ⟨w.heap.size, 2, none⟩ = some (.int .i64 c) := HK1.out.at_ 2 rfl
    have r0 : w1.cell? ⟨w.heap.size + 1, 0, none⟩ = some (.int .i64 0) := HR1.out.at_ 0 rfl
    have r1 : w1.cell? ⟨w.heap.size + 1, 1, none⟩ = some (.int .i64 0) := HR1.out.at_ 1 rfl
    have r2 : w1.cell? ⟨w.heap.size + 1, 2, none⟩ = some (.int .i64 0) := HR1.out.at_ 2 rfl
    have rf := HR1.out.free
    go_wp2_with fail
    have HRz := Lib.hid (ce HR1.out rfl (.int .i64 a) (.int .i64 b) (.int .i64 c))
    exact bodyPost_ret (v := .tuple #[.agg (bS ⟨a, b, c⟩), .int .i64 1]) (dJ Tryz.results108 _ J J HRz.out lL) rfl ⟨by rw [HS.out], bz HB1.out (Nat.le_succ _) _ _ _⟩
  | true =>
    rw [hv] at HV
    have hw : 0 ≤ b ∧ 0 ≤ c ∧ b + c ≤ 1048576 := by unfold aS at hv; simp only [decide_eq_true_eq] at hv; omega
    have HVV := Lib.hid hv; clear hv
    go_enter Tryz.func108, Tryz.ntmps108
    go_wp2_with fail
    refine (HV.out _).mono ?_; rintro e w1 ⟨rfl, hb1⟩
    have HB1 := Lib.hid (HB0.out.trans (hb1.mono HB0.out.size)); have HK1 := Lib.hid (HK0.out.keep hb1); have HR1 := Lib.hid (HR0.out.keep hb1); clear hb1
    have k0 : w1.cell? ⟨w.heap.size, 0, none⟩ = some (.int .i64 a) := HK1.out.at_ 0 rfl
    have k1 : w1.cell? ⟨w.heap.size, 1, none⟩ = some (.int .i64 b) := HK1.out.at_ 1 rfl
    have k2 : w1.cell? ⟨w.heap.size, 2, none⟩ = some (.int .i64 c) := HK1.out.at_ 2 rfl
    have r0 : w1.cell? ⟨w.heap.size + 1, 0, none⟩ = some (.int .i64 0) := HR1.out.at_ 0 rfl
    have r1 : w1.cell? ⟨w.heap.size + 1, 1, none⟩ = some (.int .i64 0) := HR1.out.at_ 1 rfl
    have r2 : w1.cell? ⟨w.heap.size + 1, 2, none⟩ = some (.int .i64 0) := HR1.out.at_ 2 rfl
    have rf := HR1.out.free
    go_wp2_with fail
    have HB2 := Lib.hid (HB1.out.alloc HB1.out.size (.cells #[.int .i64 a, .int .i64 b, .int .i64 c] CT))
    have HK2 := Lib.hid (HK1.out.more (.cells #[.int .i64 a, .int .i64 b, .int .i64 c] CT)); have HR2 := Lib.hid (HR1.out.more (.cells #[.int .i64 a, .int .i64 b, .int .i64 c] CT))
    have HA2 := Lib.hid (Bk.new w1 CT #[.int .i64 a, .int .i64 b, .int .i64 c])
    have HN1 := Lib.hid (show w.heap.size ≠ w1.heap.size from Nat.ne_of_lt HK1.out.here); have HN2 := Lib.hid (show w.heap.size + 1 ≠ w1.heap.size from Nat.ne_of_lt HR1.out.here)
    have HSZ := Lib.hid HB1.out.size
    refine (uy _ _).mono ?_; rintro e w2 ⟨rfl, rfl⟩
    go_wp2_with fail
    refine (ux w1.heap.size a b c n _ (by omega) HA2.out).mono ?_; intro e w3 hE; unfold so at hE; revert e w3 hE
    clear k0 k1 k2 r0 r1 r2 rf
    rintro e w3 (⟨rfl, q, rfl⟩ | ⟨rfl, q, q2, rfl⟩ | ⟨rfl, q, q2, rfl⟩)
    · have HS := Lib.hid (show cS ⟨a, b, c⟩ n = ⟨⟨a, b, c⟩, 1⟩ by unfold cS; rw [if_pos (.inr q)])
      have r0 : (w1.alloc (.cells #[.int .i64 a, .int .i64 b, .int .i64 c] CT)).cell? ⟨w.heap.size + 1, 0, none⟩ = some (.int .i64 0) := HR2.out.at_ 0 rfl
      have r1 : (w1.alloc (.cells #[.int .i64 a, .int .i64 b, .int .i64 c] CT)).cell? ⟨w.heap.size + 1, 1, none⟩ = some (.int .i64 0) := HR2.out.at_ 1 rfl
      have r2 : (w1.alloc (.cells #[.int .i64 a, .int .i64 b, .int .i64 c] CT)).cell? ⟨w.heap.size + 1, 2, none⟩ = some (.int .i64 0) := HR2.out.at_ 2 rfl
      have rf := HR2.out.free
      have k0 : (w1.alloc (.cells #[.int .i64 a, .int .i64 b, .int .i64 c] CT)).cell? ⟨w.heap.size, 0, none⟩ = some (.int .i64 a) := HK2.out.at_ 0 rfl
      have k1 : (w1.alloc (.cells #[.int .i64 a, .int .i64 b, .int .i64 c] CT)).cell? ⟨w.heap.size, 1, none⟩ = some (.int .i64 b) := HK2.out.at_ 1 rfl
      have k2 : (w1.alloc (.cells #[.int .i64 a, .int .i64 b, .int .i64 c] CT)).cell? ⟨w.heap.size, 2, none⟩ = some (.int .i64 c) := HK2.out.at_ 2 rfl
      go_wp2_with fail
      have HRz := Lib.hid (ce HR2.out rfl (.int .i64 (a)) (.int .i64 (b)) (.int .i64 (c)))
      exact bodyPost_ret (v := .tuple #[.agg (bS ⟨a, b, c⟩), .int .i64 1]) (dJ Tryz.results108 _ J J HRz.out lL) rfl ⟨by rw [HS.out], bz HB2.out (Nat.le_succ _) _ _ _⟩
    · have HS := Lib.hid (show cS ⟨a, b, c⟩ n = ⟨⟨a, b, c⟩, 22⟩ by unfold cS; rw [if_neg (by rw [HVV.out]; simp; omega), if_pos q2])
      have r0 : (w1.alloc (.cells #[.int .i64 a, .int .i64 b, .int .i64 c] CT)).cell? ⟨w.heap.size + 1, 0, none⟩ = some (.int .i64 0) := HR2.out.at_ 0 rfl
      have r1 : (w1.alloc (.cells #[.int .i64 a, .int .i64 b, .int .i64 c] CT)).cell? ⟨w.heap.size + 1, 1, none⟩ = some (.int .i64 0) := HR2.out.at_ 1 rfl
      have r2 : (w1.alloc (.cells #[.int .i64 a, .int .i64 b, .int .i64 c] CT)).cell? ⟨w.heap.size + 1, 2, none⟩ = some (.int .i64 0) := HR2.out.at_ 2 rfl
      have rf := HR2.out.free
      have k0 : (w1.alloc (.cells #[.int .i64 a, .int .i64 b, .int .i64 c] CT)).cell? ⟨w.heap.size, 0, none⟩ = some (.int .i64 a) := HK2.out.at_ 0 rfl
      have k1 : (w1.alloc (.cells #[.int .i64 a, .int .i64 b, .int .i64 c] CT)).cell? ⟨w.heap.size, 1, none⟩ = some (.int .i64 b) := HK2.out.at_ 1 rfl
      have k2 : (w1.alloc (.cells #[.int .i64 a, .int .i64 b, .int .i64 c] CT)).cell? ⟨w.heap.size, 2, none⟩ = some (.int .i64 c) := HK2.out.at_ 2 rfl
      go_wp2_with fail
      have HRz := Lib.hid (ce HR2.out rfl (.int .i64 (a)) (.int .i64 (b)) (.int .i64 (c)))
      exact bodyPost_ret (v := .tuple #[.agg (bS ⟨a, b, c⟩), .int .i64 22]) (dJ Tryz.results108 _ J J HRz.out lL) rfl ⟨by rw [HS.out], bz HB2.out (Nat.le_succ _) _ _ _⟩
    · have HS := Lib.hid (show cS ⟨a, b, c⟩ n = ⟨⟨a, b - n, c⟩, 0⟩ by unfold cS; rw [if_neg (by rw [HVV.out]; simp; omega), if_neg (show ¬ b < n by omega)])
      have HR3 := Lib.hid (HR1.out.more (.cells #[.int .i64 a, .int .i64 (b - n), .int .i64 (c)] CT)); have HB3 := Lib.hid (HB1.out.alloc HB1.out.size (.cells #[.int .i64 a, .int .i64 (b - n), .int .i64 (c)] CT))
      have r0 : (w1.alloc (.cells #[.int .i64 a, .int .i64 (b - n), .int .i64 (c)] CT)).cell? ⟨w.heap.size + 1, 0, none⟩ = some (.int .i64 0) := HR3.out.at_ 0 rfl
      have r1 : (w1.alloc (.cells #[.int .i64 a, .int .i64 (b - n), .int .i64 (c)] CT)).cell? ⟨w.heap.size + 1, 1, none⟩ = some (.int .i64 0) := HR3.out.at_ 1 rfl
      have r2 : (w1.alloc (.cells #[.int .i64 a, .int .i64 (b - n), .int .i64 (c)] CT)).cell? ⟨w.heap.size + 1, 2, none⟩ = some (.int .i64 0) := HR3.out.at_ 2 rfl
      have rf := HR3.out.free
      go_wp2_with fail
      have HRz := Lib.hid (ce HR3.out rfl (.int .i64 (a)) (.int .i64 (b - n)) (.int .i64 (c)))
      exact bodyPost_ret (v := .tuple #[.agg (bS ⟨a, b - n, c⟩), .int .i64 0]) (dJ Tryz.results108 _ J J HRz.out lL) rfl ⟨by rw [HS.out], bz HB3.out (Nat.le_succ _) _ _ _⟩
theorem pf (x : WinV) (n : Int) (w : World) : Calls Tryz.prog 82 #[.agg (bS x), .int .i64 n] w fun e w' => e = .returned (.tuple #[.agg (bS (cS x n).win), .int .i64 (cS x n).err]) ∧ Below w.heap.size w w' := by
  have HC := Lib.hid (fun w => qm x n w)
  generalize cS x n = R at *
  obtain ⟨⟨ra, rb, rc⟩, re⟩ := R
  obtain ⟨a, b, c⟩ := x
  have HB0 := Lib.hid (show Below w.heap.size w ((w.alloc (.cells #[.int .i64 a, .int .i64 b, .int .i64 c] WT)).alloc (.cells #[.int .i64 0, .int .i64 0, .int .i64 0] WT)) from (lM w _).alloc (by simp) _)
  have HR0 := Lib.hid (Bk.new1 w (.cells #[.int .i64 a, .int .i64 b, .int .i64 c] WT) WT #[.int .i64 0, .int .i64 0, .int .i64 0])
  go_enter Tryz.func82, Tryz.ntmps82
  go_wp2_with fail
  refine (HC.out _).mono ?_; rintro e w1 ⟨rfl, hb1⟩
  have HB1 := Lib.hid (HB0.out.trans (hb1.mono HB0.out.size)); have HR1 := Lib.hid (HR0.out.keep hb1); clear hb1
  have r0 : w1.cell? ⟨w.heap.size + 1, 0, none⟩ = some (.int .i64 0) := HR1.out.at_ 0 rfl
  have r1 : w1.cell? ⟨w.heap.size + 1, 1, none⟩ = some (.int .i64 0) := HR1.out.at_ 1 rfl
  have r2 : w1.cell? ⟨w.heap.size + 1, 2, none⟩ = some (.int .i64 0) := HR1.out.at_ 2 rfl
  have rf := HR1.out.free
  go_wp2_with fail
  have HRz := Lib.hid (ce HR1.out rfl (.int .i64 ra) (.int .i64 rb) (.int .i64 rc))
  exact bodyPost_ret (v := .tuple #[.agg (bS ⟨ra, rb, rc⟩), .int .i64 re]) (dJ Tryz.results82 _ J J HRz.out lL) rfl ⟨rfl, bz HB1.out (Nat.le_succ _) _ _ _⟩
theorem qn (b : Nat) (w : World) : Calls Tryz.prog 125 #[.pointer (some ⟨b, 0, none⟩)] w fun e w' => e = .returned (.func (.func 126) #[.pointer (some ⟨b, 0, none⟩)] #[]) ∧ w = w' := by
  go_enter Tryz.func125, Tryz.ntmps125
  go_wp2
  go_ret
  exact ⟨rfl, rfl⟩
set_option maxHeartbeats 2000000 in
theorem nS (x : WinV) (n : Int) (w : World) : Calls Tryz.prog 108 #[.agg (bS x), .int .i64 n, .func (.func 125) #[] #[]] w fun e w' => e = .returned (.tuple #[.agg (bS (bo x n).win), .int .i64 (bo x n).err]) ∧ Below w.heap.size w w' := by
  have HV := Lib.hid (fun w => gZ x w)
  obtain ⟨a, b, c⟩ := x
  have HB0 := Lib.hid (show Below w.heap.size w ((w.alloc (.cells #[.int .i64 a, .int .i64 b, .int .i64 c] WT)).alloc (.cells #[.int .i64 0, .int .i64 0, .int .i64 0] WT)) from (lM w _).alloc (by simp) _)
  have HK0 := Lib.hid ((Bk.new w WT #[.int .i64 a, .int .i64 b, .int .i64 c]).more (.cells #[.int .i64 0, .int .i64 0, .int .i64 0] WT))
  have HR0 := Lib.hid (Bk.new1 w (.cells #[.int .i64 a, .int .i64 b, .int .i64 c] WT) WT #[.int .i64 0, .int .i64 0, .int .i64 0])
  cases hv : aS ⟨a, b, c⟩ with
  | false =>
    rw [hv] at HV
    have HS := Lib.hid (show bo ⟨a, b, c⟩ n = ⟨⟨a, b, c⟩, 1⟩ by unfold bo; rw [if_pos (.inl hv)])
    clear hv
    go_enter Tryz.func108, Tryz.ntmps108
    go_wp2_with fail
    refine (HV.out _).mono ?_; rintro e w1 ⟨rfl, hb1⟩
    have HB1 := Lib.hid (HB0.out.trans (hb1.mono HB0.out.size)); have HK1 := Lib.hid (HK0.out.keep hb1); have HR1 := Lib.hid (HR0.out.keep hb1); clear hb1
    have k0 : w1.cell? ⟨w.heap.size, 0, none⟩ = some (.int .i64 a) := HK1.out.at_ 0 rfl
    have k1 : w1.cell? ⟨w.heap.size, 1, none⟩ = some (.int .i64 b) := HK1.out.at_ 1 rfl
    have k2 : w1.cell? ⟨w.heap.size, 2, none⟩ = some (.int .i64 c) := HK1.out.at_ 2 rfl
    have r0 : w1.cell? ⟨w.heap.size + 1, 0, none⟩ = some (.int .i64 0) := HR1.out.at_ 0 rfl
    have r1 : w1.cell? ⟨w.heap.size + 1, 1, none⟩ = some (.int .i64 0) := HR1.out.at_ 1 rfl
    have r2 : w1.cell? ⟨w.heap.size + 1, 2, none⟩ = some (.int .i64 0) := HR1.out.at_ 2 rfl
    have rf := HR1.out.free
    go_wp2_with fail
    have HRz := Lib.hid (ce HR1.out rfl (.int .i64 a) (.int .i64 b) (.int .i64 c))
    exact bodyPost_ret (v := .tuple #[.agg (bS ⟨a, b, c⟩), .int .i64 1]) (dJ Tryz.results108 _ J J HRz.out lL) rfl ⟨by rw [HS.out], bz HB1.out (Nat.le_succ _) _ _ _⟩
  | true =>
    rw [hv] at HV
    have hw : 0 ≤ b ∧ 0 ≤ c ∧ b + c ≤ 1048576 := by unfold aS at hv; simp only [decide_eq_true_eq] at hv; omega
    have HVV := Lib.hid hv; clear hv
    go_enter Tryz.func108, Tryz.ntmps108
    go_wp2_with fail
    refine (HV.out _).mono ?_; rintro e w1 ⟨rfl, hb1⟩
    have HB1 := Lib.hid (HB0.out.trans (hb1.mono HB0.out.size)); have HK1 := Lib.hid (HK0.out.keep hb1); have HR1 := Lib.hid (HR0.out.keep hb1); clear hb1
    have k0 : w1.cell? ⟨w.heap.size, 0, none⟩ = some (.int .i64 a) := HK1.out.at_ 0 rfl
    have k1 : w1.cell? ⟨w.heap.size, 1, none⟩ = some (.int .i64 b) := HK1.out.at_ 1 rfl
    have k2 : w1.cell? ⟨w.heap.size, 2, none⟩ = some (.int .i64 c) := HK1.out.at_ 2 rfl
    have r0 : w1.cell? ⟨w.heap.size + 1, 0, none⟩ = some (.int .i64 0) := HR1.out.at_ 0 rfl
    have r1 : w1.cell? ⟨w.heap.size + 1, 1, none⟩ = some (.int .i64 0) := HR1.out.at_ 1 rfl
    have r2 : w1.cell? ⟨w.heap.size + 1, 2, none⟩ = some (.int .i64 0) := HR1.out.at_ 2 rfl
    have rf := HR1.out.free
    go_wp2_with fail
    have HB2 := Lib.hid (HB1.out.alloc HB1.out.size (.cells #[.int .i64 a, .int .i64 b, .int .i64 c] CT))
    have HK2 := Lib.hid (HK1.out.more (.cells #[.int .i64 a, .int .i64 b, .int .i64 c] CT)); have HR2 := Lib.hid (HR1.out.more (.cells #[.int .i64 a, .int .i64 b, .int .i64 c] CT))
    have HA2 := Lib.hid (Bk.new w1 CT #[.int .i64 a, .int .i64 b, .int .i64 c])
    have HN1 := Lib.hid (show w.heap.size ≠ w1.heap.size from Nat.ne_of_lt HK1.out.here); have HN2 := Lib.hid (show w.heap.size + 1 ≠ w1.heap.size from Nat.ne_of_lt HR1.out.here)
    have HSZ := Lib.hid HB1.out.size
    refine (qn _ _).mono ?_; rintro e w2 ⟨rfl, rfl⟩
    go_wp2_with fail
    refine (wB w1.heap.size a b c n _ (by omega) HA2.out).mono ?_; intro e w3 hE; unfold qV at hE; revert e w3 hE
    clear k0 k1 k2 r0 r1 r2 rf
    rintro e w3 (⟨rfl, q, rfl⟩ | ⟨rfl, q, q2, rfl⟩ | ⟨rfl, q, q2, rfl⟩)
    · have HS := Lib.hid (show bo ⟨a, b, c⟩ n = ⟨⟨a, b, c⟩, 1⟩ by unfold bo; rw [if_pos (.inr q)])
      have r0 : (w1.alloc (.cells #[.int .i64 a, .int .i64 b, .int .i64 c] CT)).cell? ⟨w.heap.size + 1, 0, none⟩ = some (.int .i64 0) := HR2.out.at_ 0 rfl
      have r1 : (w1.alloc (.cells #[.int .i64 a, .int .i64 b, .int .i64 c] CT)).cell? ⟨w.heap.size + 1, 1, none⟩ = some (.int .i64 0) := HR2.out.at_ 1 rfl
      have r2 : (w1.alloc (.cells #[.int .i64 a, .int .i64 b, .int .i64 c] CT)).cell? ⟨w.heap.size + 1, 2, none⟩ = some (.int .i64 0) := HR2.out.at_ 2 rfl
      have rf := HR2.out.free
      have k0 : (w1.alloc (.cells #[.int .i64 a, .int .i64 b, .int .i64 c] CT)).cell? ⟨w.heap.size, 0, none⟩ = some (.int .i64 a) := HK2.out.at_ 0 rfl
      have k1 : (w1.alloc (.cells #[.int .i64 a, .int .i64 b, .int .i64 c] CT)).cell? ⟨w.heap.size, 1, none⟩ = some (.int .i64 b) := HK2.out.at_ 1 rfl
      have k2 : (w1.alloc (.cells #[.int .i64 a, .int .i64 b, .int .i64 c] CT)).cell? ⟨w.heap.size, 2, none⟩ = some (.int .i64 c) := HK2.out.at_ 2 rfl
      go_wp2_with fail
      have HRz := Lib.hid (ce HR2.out rfl (.int .i64 (a)) (.int .i64 (b)) (.int .i64 (c)))
      exact bodyPost_ret (v := .tuple #[.agg (bS ⟨a, b, c⟩), .int .i64 1]) (dJ Tryz.results108 _ J J HRz.out lL) rfl ⟨by rw [HS.out], bz HB2.out (Nat.le_succ _) _ _ _⟩
    · have HS := Lib.hid (show bo ⟨a, b, c⟩ n = ⟨⟨a, b, c⟩, 22⟩ by unfold bo; rw [if_neg (by rw [HVV.out]; simp; omega), if_pos q2])
      have r0 : (w1.alloc (.cells #[.int .i64 a, .int .i64 b, .int .i64 c] CT)).cell? ⟨w.heap.size + 1, 0, none⟩ = some (.int .i64 0) := HR2.out.at_ 0 rfl
      have r1 : (w1.alloc (.cells #[.int .i64 a, .int .i64 b, .int .i64 c] CT)).cell? ⟨w.heap.size + 1, 1, none⟩ = some (.int .i64 0) := HR2.out.at_ 1 rfl
      have r2 : (w1.alloc (.cells #[.int .i64 a, .int .i64 b, .int .i64 c] CT)).cell? ⟨w.heap.size + 1, 2, none⟩ = some (.int .i64 0) := HR2.out.at_ 2 rfl
      have rf := HR2.out.free
      have k0 : (w1.alloc (.cells #[.int .i64 a, .int .i64 b, .int .i64 c] CT)).cell? ⟨w.heap.size, 0, none⟩ = some (.int .i64 a) := HK2.out.at_ 0 rfl
      have k1 : (w1.alloc (.cells #[.int .i64 a, .int .i64 b, .int .i64 c] CT)).cell? ⟨w.heap.size, 1, none⟩ = some (.int .i64 b) := HK2.out.at_ 1 rfl
      have k2 : (w1.alloc (.cells #[.int .i64 a, .int .i64 b, .int .i64 c] CT)).cell? ⟨w.heap.size, 2, none⟩ = some (.int .i64 c) := HK2.out.at_ 2 rfl
      go_wp2_with fail
      have HRz := Lib.hid (ce HR2.out rfl (.int .i64 (a)) (.int .i64 (b)) (.int .i64 (c)))
      exact bodyPost_ret (v := .tuple #[.agg (bS ⟨a, b, c⟩), .int .i64 22]) (dJ Tryz.results108 _ J J HRz.out lL) rfl ⟨by rw [HS.out], bz HB2.out (Nat.le_succ _) _ _ _⟩
    · have HS := Lib.hid (show bo ⟨a, b, c⟩ n = ⟨⟨a, b - n, c + n⟩, 0⟩ by unfold bo; rw [if_neg (by rw [HVV.out]; simp; omega), if_neg (show ¬ b < n by omega)])
      have HR3 := Lib.hid (HR1.out.more (.cells #[.int .i64 a, .int .i64 (b - n), .int .i64 (c + n)] CT)); have HB3 := Lib.hid (HB1.out.alloc HB1.out.size (.cells #[.int .i64 a, .int .i64 (b - n), .int .i64 (c + n)] CT))
      have r0 : (w1.alloc (.cells #[.int .i64 a, .int .i64 (b - n), .int .i64 (c + n)] CT)).cell? ⟨w.heap.size + 1, 0, none⟩ = some (.int .i64 0) := HR3.out.at_ 0 rfl
      have r1 : (w1.alloc (.cells #[.int .i64 a, .int .i64 (b - n), .int .i64 (c + n)] CT)).cell? ⟨w.heap.size + 1, 1, none⟩ = some (.int .i64 0) := HR3.out.at_ 1 rfl
      have r2 : (w1.alloc (.cells #[.int .i64 a, .int .i64 (b - n), .int .i64 (c + n)] CT)).cell? ⟨w.heap.size + 1, 2, none⟩ = some (.int .i64 0) := HR3.out.at_ 2 rfl
      have rf := HR3.out.free
      go_wp2_with fail
      have HRz := Lib.hid (ce HR3.out rfl (.int .i64 (a)) (.int .i64 (b - n)) (.int .i64 (c + n)))
      exact bodyPost_ret (v := .tuple #[.agg (bS ⟨a, b - n, c + n⟩), .int .i64 0]) (dJ Tryz.results108 _ J J HRz.out lL) rfl ⟨by rw [HS.out], bz HB3.out (Nat.le_succ _) _ _ _⟩
theorem my (x : WinV) (n : Int) (w : World) : Calls Tryz.prog 115 #[.agg (bS x), .int .i64 n] w fun e w' => e = .returned (.tuple #[.agg (bS (bo x n).win), .int .i64 (bo x n).err]) ∧ Below w.heap.size w w' := by
  have HC := Lib.hid (fun w => nS x n w)
  generalize bo x n = R at *
  obtain ⟨⟨ra, rb, rc⟩, re⟩ := R
  obtain ⟨a, b, c⟩ := x
  have HB0 := Lib.hid (show Below w.heap.size w ((w.alloc (.cells #[.int .i64 a, .int .i64 b, .int .i64 c] WT)).alloc (.cells #[.int .i64 0, .int .i64 0, .int .i64 0] WT)) from (lM w _).alloc (by simp) _)
  have HR0 := Lib.hid (Bk.new1 w (.cells #[.int .i64 a, .int .i64 b, .int .i64 c] WT) WT #[.int .i64 0, .int .i64 0, .int .i64 0])
  go_enter Tryz.func115, Tryz.ntmps115
  go_wp2_with fail
  refine (HC.out _).mono ?_; rintro e w1 ⟨rfl, hb1⟩
  have HB1 := Lib.hid (HB0.out.trans (hb1.mono HB0.out.size)); have HR1 := Lib.hid (HR0.out.keep hb1); clear hb1
  have r0 : w1.cell? ⟨w.heap.size + 1, 0, none⟩ = some (.int .i64 0) := HR1.out.at_ 0 rfl
  have r1 : w1.cell? ⟨w.heap.size + 1, 1, none⟩ = some (.int .i64 0) := HR1.out.at_ 1 rfl
  have r2 : w1.cell? ⟨w.heap.size + 1, 2, none⟩ = some (.int .i64 0) := HR1.out.at_ 2 rfl
  have rf := HR1.out.free
  go_wp2_with fail
  have HRz := Lib.hid (ce HR1.out rfl (.int .i64 ra) (.int .i64 rb) (.int .i64 rc))
  exact bodyPost_ret (v := .tuple #[.agg (bS ⟨ra, rb, rc⟩), .int .i64 re]) (dJ Tryz.results115 _ J J HRz.out lL) rfl ⟨rfl, bz HB1.out (Nat.le_succ _) _ _ _⟩
theorem uz (b : Nat) (w : World) : Calls Tryz.prog 112 #[.pointer (some ⟨b, 0, none⟩)] w fun e w' => e = .returned (.func (.func 113) #[.pointer (some ⟨b, 0, none⟩)] #[]) ∧ w = w' := by
  go_enter Tryz.func112, Tryz.ntmps112
  go_wp2
  go_ret
  exact ⟨rfl, rfl⟩
set_option maxHeartbeats 2000000 in
theorem qo (x : WinV) (n : Int) (w : World) : Calls Tryz.prog 108 #[.agg (bS x), .int .i64 n, .func (.func 112) #[] #[]] w fun e w' => e = .returned (.tuple #[.agg (bS (cC x n).win), .int .i64 (cC x n).err]) ∧ Below w.heap.size w w' := by
  have HV := Lib.hid (fun w => gZ x w)
  obtain ⟨a, b, c⟩ := x
  have HB0 := Lib.hid (show Below w.heap.size w ((w.alloc (.cells #[.int .i64 a, .int .i64 b, .int .i64 c] WT)).alloc (.cells #[.int .i64 0, .int .i64 0, .int .i64 0] WT)) from (lM w _).alloc (by simp) _)
  have HK0 := Lib.hid ((Bk.new w WT #[.int .i64 a, .int .i64 b, .int .i64 c]).more (.cells #[.int .i64 0, .int .i64 0, .int .i64 0] WT))
  have HR0 := Lib.hid (Bk.new1 w (.cells #[.int .i64 a, .int .i64 b, .int .i64 c] WT) WT #[.int .i64 0, .int .i64 0, .int .i64 0])
  cases hv : aS ⟨a, b, c⟩ with
  | false =>
    rw [hv] at HV
    have HS := Lib.hid (show cC ⟨a, b, c⟩ n = ⟨⟨a, b, c⟩, 1⟩ by unfold cC; rw [if_pos (.inl hv)])
    clear hv
    go_enter Tryz.func108, Tryz.ntmps108
    go_wp2_with fail
    refine (HV.out _).mono ?_; rintro e w1 ⟨rfl, hb1⟩
    have HB1 := Lib.hid (HB0.out.trans (hb1.mono HB0.out.size)); have HK1 := Lib.hid (HK0.out.keep hb1); have HR1 := Lib.hid (HR0.out.keep hb1); clear hb1
    have k0 : w1.cell? ⟨w.heap.size, 0, none⟩ = some (.int .i64 a) := HK1.out.at_ 0 rfl
    have k1 : w1.cell? ⟨w.heap.size, 1, none⟩ = some (.int .i64 b) := HK1.out.at_ 1 rfl
    have k2 : w1.cell? ⟨w.heap.size, 2, none⟩ = some (.int .i64 c) := HK1.out.at_ 2 rfl
    have r0 : w1.cell? ⟨w.heap.size + 1, 0, none⟩ = some (.int .i64 0) := HR1.out.at_ 0 rfl
    have r1 : w1.cell? ⟨w.heap.size + 1, 1, none⟩ = some (.int .i64 0) := HR1.out.at_ 1 rfl
    have r2 : w1.cell? ⟨w.heap.size + 1, 2, none⟩ = some (.int .i64 0) := HR1.out.at_ 2 rfl
    have rf := HR1.out.free
    go_wp2_with fail
    have HRz := Lib.hid (ce HR1.out rfl (.int .i64 a) (.int .i64 b) (.int .i64 c))
    exact bodyPost_ret (v := .tuple #[.agg (bS ⟨a, b, c⟩), .int .i64 1]) (dJ Tryz.results108 _ J J HRz.out lL) rfl ⟨by rw [HS.out], bz HB1.out (Nat.le_succ _) _ _ _⟩
  | true =>
    rw [hv] at HV
    have hw : 0 ≤ b ∧ 0 ≤ c ∧ b + c ≤ 1048576 := by unfold aS at hv; simp only [decide_eq_true_eq] at hv; omega
    have HVV := Lib.hid hv; clear hv
    go_enter Tryz.func108, Tryz.ntmps108
    go_wp2_with fail
    refine (HV.out _).mono ?_; rintro e w1 ⟨rfl, hb1⟩
    have HB1 := Lib.hid (HB0.out.trans (hb1.mono HB0.out.size)); have HK1 := Lib.hid (HK0.out.keep hb1); have HR1 := Lib.hid (HR0.out.keep hb1); clear hb1
    have k0 : w1.cell? ⟨w.heap.size, 0, none⟩ = some (.int .i64 a) := HK1.out.at_ 0 rfl
    have k1 : w1.cell? ⟨w.heap.size, 1, none⟩ = some (.int .i64 b) := HK1.out.at_ 1 rfl
    have k2 : w1.cell? ⟨w.heap.size, 2, none⟩ = some (.int .i64 c) := HK1.out.at_ 2 rfl
    have r0 : w1.cell? ⟨w.heap.size + 1, 0, none⟩ = some (.int .i64 0) := HR1.out.at_ 0 rfl
    have r1 : w1.cell? ⟨w.heap.size + 1, 1, none⟩ = some (.int .i64 0) := HR1.out.at_ 1 rfl
    have r2 : w1.cell? ⟨w.heap.size + 1, 2, none⟩ = some (.int .i64 0) := HR1.out.at_ 2 rfl
    have rf := HR1.out.free
    go_wp2_with fail
    have HB2 := Lib.hid (HB1.out.alloc HB1.out.size (.cells #[.int .i64 a, .int .i64 b, .int .i64 c] CT))
    have HK2 := Lib.hid (HK1.out.more (.cells #[.int .i64 a, .int .i64 b, .int .i64 c] CT)); have HR2 := Lib.hid (HR1.out.more (.cells #[.int .i64 a, .int .i64 b, .int .i64 c] CT))
    have HA2 := Lib.hid (Bk.new w1 CT #[.int .i64 a, .int .i64 b, .int .i64 c])
    have HN1 := Lib.hid (show w.heap.size ≠ w1.heap.size from Nat.ne_of_lt HK1.out.here); have HN2 := Lib.hid (show w.heap.size + 1 ≠ w1.heap.size from Nat.ne_of_lt HR1.out.here)
    have HSZ := Lib.hid HB1.out.size
    refine (uz _ _).mono ?_; rintro e w2 ⟨rfl, rfl⟩
    go_wp2_with fail
    refine (Br w1.heap.size a b c n _ (by omega) HA2.out).mono ?_; intro e w3 hE; unfold xR at hE; revert e w3 hE
    clear k0 k1 k2 r0 r1 r2 rf
    rintro e w3 ⟨m, hE, hk3, hg3⟩
    have HK3 := Lib.hid (HK2.out.beside hg3 HN1.out); have HR3 := Lib.hid (HR2.out.beside hg3 HN2.out); have HA3 := Lib.hid hk3
    have HB3 := Lib.hid (HB2.out.grown hg3 HB2.out.size (fun k hk => by have := Option.some.inj hk; have := HSZ.out; omega))
    clear hk3 hg3
    rcases hE with ⟨rfl, q, rfl⟩ | ⟨rfl, q, q2, rfl⟩ | ⟨rfl, q, q2, rfl⟩
    · have HS := Lib.hid (show cC ⟨a, b, c⟩ n = ⟨⟨a, b, c⟩, 1⟩ by unfold cC; rw [if_pos (.inr q)])
      have r0 : (w3).cell? ⟨w.heap.size + 1, 0, none⟩ = some (.int .i64 0) := HR3.out.at_ 0 rfl
      have r1 : (w3).cell? ⟨w.heap.size + 1, 1, none⟩ = some (.int .i64 0) := HR3.out.at_ 1 rfl
      have r2 : (w3).cell? ⟨w.heap.size + 1, 2, none⟩ = some (.int .i64 0) := HR3.out.at_ 2 rfl
      have rf := HR3.out.free
      have k0 : w3.cell? ⟨w.heap.size, 0, none⟩ = some (.int .i64 a) := HK3.out.at_ 0 rfl
      have k1 : w3.cell? ⟨w.heap.size, 1, none⟩ = some (.int .i64 b) := HK3.out.at_ 1 rfl
      have k2 : w3.cell? ⟨w.heap.size, 2, none⟩ = some (.int .i64 c) := HK3.out.at_ 2 rfl
      go_wp2_with fail
      have HRz := Lib.hid (ce HR3.out rfl (.int .i64 (a)) (.int .i64 (b)) (.int .i64 (c)))
      exact bodyPost_ret (v := .tuple #[.agg (bS ⟨a, b, c⟩), .int .i64 1]) (dJ Tryz.results108 _ J J HRz.out lL) rfl ⟨by rw [HS.out], bz HB3.out (Nat.le_succ _) _ _ _⟩
    · have HS := Lib.hid (show cC ⟨a, b, c⟩ n = ⟨⟨a, b, c⟩, 6⟩ by unfold cC; rw [if_neg (by rw [HVV.out]; simp; omega), if_pos q2])
      have r0 : (w3).cell? ⟨w.heap.size + 1, 0, none⟩ = some (.int .i64 0) := HR3.out.at_ 0 rfl
      have r1 : (w3).cell? ⟨w.heap.size + 1, 1, none⟩ = some (.int .i64 0) := HR3.out.at_ 1 rfl
      have r2 : (w3).cell? ⟨w.heap.size + 1, 2, none⟩ = some (.int .i64 0) := HR3.out.at_ 2 rfl
      have rf := HR3.out.free
      have k0 : w3.cell? ⟨w.heap.size, 0, none⟩ = some (.int .i64 a) := HK3.out.at_ 0 rfl
      have k1 : w3.cell? ⟨w.heap.size, 1, none⟩ = some (.int .i64 b) := HK3.out.at_ 1 rfl
      have k2 : w3.cell? ⟨w.heap.size, 2, none⟩ = some (.int .i64 c) := HK3.out.at_ 2 rfl
      go_wp2_with fail
      have HRz := Lib.hid (ce HR3.out rfl (.int .i64 (a)) (.int .i64 (b)) (.int .i64 (c)))
      exact bodyPost_ret (v := .tuple #[.agg (bS ⟨a, b, c⟩), .int .i64 6]) (dJ Tryz.results108 _ J J HRz.out lL) rfl ⟨by rw [HS.out], bz HB3.out (Nat.le_succ _) _ _ _⟩
    · have HS := Lib.hid (show cC ⟨a, b, c⟩ n = ⟨⟨a, b + n, c⟩, 0⟩ by unfold cC; rw [if_neg (by rw [HVV.out]; simp; omega), if_neg (show ¬ 1048576 - b - c < n by omega)])
      have r0 : (w3).cell? ⟨w.heap.size + 1, 0, none⟩ = some (.int .i64 0) := HR3.out.at_ 0 rfl
      have r1 : (w3).cell? ⟨w.heap.size + 1, 1, none⟩ = some (.int .i64 0) := HR3.out.at_ 1 rfl
      have r2 : (w3).cell? ⟨w.heap.size + 1, 2, none⟩ = some (.int .i64 0) := HR3.out.at_ 2 rfl
      have rf := HR3.out.free
      have k0 : w3.cell? ⟨w.heap.size, 0, none⟩ = some (.int .i64 a) := HK3.out.at_ 0 rfl
      have k1 : w3.cell? ⟨w.heap.size, 1, none⟩ = some (.int .i64 b) := HK3.out.at_ 1 rfl
      have k2 : w3.cell? ⟨w.heap.size, 2, none⟩ = some (.int .i64 c) := HK3.out.at_ 2 rfl
      have m0 : w3.cell? ⟨w1.heap.size, 0, none⟩ = some (.int .i64 (a)) := HA3.out.at_ 0 rfl
      have m1 : w3.cell? ⟨w1.heap.size, 1, none⟩ = some (.int .i64 (b + n)) := HA3.out.at_ 1 rfl
      have m2 : w3.cell? ⟨w1.heap.size, 2, none⟩ = some (.int .i64 (c)) := HA3.out.at_ 2 rfl
      go_wp2_with fail
      have HRz := Lib.hid (ce HR3.out rfl (.int .i64 (a)) (.int .i64 (b + n)) (.int .i64 (c)))
      exact bodyPost_ret (v := .tuple #[.agg (bS ⟨a, b + n, c⟩), .int .i64 0]) (dJ Tryz.results108 _ J J HRz.out lL) rfl ⟨by rw [HS.out], bz HB3.out (Nat.le_succ _) _ _ _⟩
theorem ph (x : WinV) (n : Int) (w : World) : Calls Tryz.prog 88 #[.agg (bS x), .int .i64 n] w fun e w' => e = .returned (.tuple #[.agg (bS (cC x n).win), .int .i64 (cC x n).err]) ∧ Below w.heap.size w w' := by
  have HC := Lib.hid (fun w => qo x n w)
  generalize cC x n = R at *
  obtain ⟨⟨ra, rb, rc⟩, re⟩ := R
  obtain ⟨a, b, c⟩ := x
  have HB0 := Lib.hid (show Below w.heap.size w ((w.alloc (.cells #[.int .i64 a, .int .i64 b, .int .i64 c] WT)).alloc (.cells #[.int .i64 0, .int .i64 0, .int .i64 0] WT)) from (lM w _).alloc (by simp) _)
  have HR0 := Lib.hid (Bk.new1 w (.cells #[.int .i64 a, .int .i64 b, .int .i64 c] WT) WT #[.int .i64 0, .int .i64 0, .int .i64 0])
  go_enter Tryz.func88, Tryz.ntmps88
  go_wp2_with fail
  refine (HC.out _).mono ?_; rintro e w1 ⟨rfl, hb1⟩
  have HB1 := Lib.hid (HB0.out.trans (hb1.mono HB0.out.size)); have HR1 := Lib.hid (HR0.out.keep hb1); clear hb1
  have r0 : w1.cell? ⟨w.heap.size + 1, 0, none⟩ = some (.int .i64 0) := HR1.out.at_ 0 rfl
  have r1 : w1.cell? ⟨w.heap.size + 1, 1, none⟩ = some (.int .i64 0) := HR1.out.at_ 1 rfl
  have r2 : w1.cell? ⟨w.heap.size + 1, 2, none⟩ = some (.int .i64 0) := HR1.out.at_ 2 rfl
  have rf := HR1.out.free
  go_wp2_with fail
  have HRz := Lib.hid (ce HR1.out rfl (.int .i64 ra) (.int .i64 rb) (.int .i64 rc))
  exact bodyPost_ret (v := .tuple #[.agg (bS ⟨ra, rb, rc⟩), .int .i64 re]) (dJ Tryz.results88 _ J J HRz.out lL) rfl ⟨rfl, bz HB1.out (Nat.le_succ _) _ _ _⟩
end Go.Proofs.YtklcfjlmlbnkaaaGreatDoor
namespace Go.Proofs.YtklcfjlmlbnkaaaGreatDoor
open Go.RowKit
abbrev aY (f : FrV) : Array Value := #[.int .i64 f.kind, .int .i64 f.strm, .int .i64 f.num, .string f.data]
abbrev FT : TypeId := 74
theorem sq (k s n : Int) (d : ByteArray) (w : World) :
    Calls Tryz.prog 43 #[.agg #[.int .i64 k, .int .i64 s, .int .i64 n, .string d]] w fun e w' => e = .returned (.bool (eA k s)) ∧ Below w.heap.size w w' := by
  go_enter Tryz.func43, Tryz.ntmps43
  go_wp2
  all_goals
    go_ret
    refine ⟨bn ?_, (Below.refl _ _).alloc (Nat.le_refl _) _⟩
    unfold eA
    rw [Bool.eq_iff_iff]
    (repeat' split) <;> simp_all <;> omega
theorem wC (k s n : Int) (d : ByteArray) (w : World) :
    Calls Tryz.prog 45 #[.agg #[.int .i64 k, .int .i64 s, .int .i64 n, .string d]] w fun e w' => e = .returned (.bool (ir k d)) ∧ Below w.heap.size w w' := by
  have hz : (d.toList.isEmpty) = decide (d.size = 0) := by
    by_cases h : d.size = 0
    · rw [(oL h).1, decide_eq_true h]
    · rw [(mW h).1, decide_eq_false h]
  have hz2 : (d.toList == []) = decide (d.size = 0) := by rw [← hz]; cases d.toList <;> rfl
  go_enter Tryz.func45, Tryz.ntmps45
  go_wp2
  all_goals
    go_ret
    refine ⟨bn ?_, (Below.refl _ _).alloc (Nat.le_refl _) _⟩
    unfold ir
    simp_all
theorem zj (n : Int) (w : World) :
    Calls Tryz.prog 70 #[.int .i64 n] w fun e w' => e = .returned (.bool (decide (1 ≤ n ∧ n ≤ 4))) ∧ w = w' := by
  have HC := Lib.hid (fun w => counts n w)
  have h2 : (c2 n != 0) = decide (1 ≤ n ∧ n ≤ 4) := by
    unfold c2 sU HD
    rw [Bool.eq_iff_iff]
    (repeat' split) <;> simp_all <;> omega
  have H2 := Lib.hid h2; clear h2
  generalize c1 n = x1 at *
  generalize c2 n = x2 at *
  generalize c3 n = x3 at *
  generalize c4 n = x4 at *
  go_enter Tryz.func70, Tryz.ntmps70
  go_wp2_with fail
  refine (HC.out _).mono ?_; rintro e w1 ⟨rfl, rfl⟩
  go_wp2_with fail
  go_ret
  exact ⟨bn (by rw [← H2.out]), rfl⟩
theorem sr (k s n : Int) (d : ByteArray) (w : World) :
    Calls Tryz.prog 44 #[.agg #[.int .i64 k, .int .i64 s, .int .i64 n, .string d]] w fun e w' => e = .returned (.bool (fQ k n)) ∧ Below w.heap.size w w' := by
  by_cases h1 : k = 1
  · subst h1
    have HS := Lib.hid (fun w => zj n w)
    go_enter Tryz.func44, Tryz.ntmps44
    go_wp2_with fail
    refine (HS.out _).mono ?_; rintro e w1 ⟨rfl, rfl⟩
    go_wp2_with fail
    go_ret
    exact ⟨bn (by unfold fQ; rw [if_pos rfl]; simp), (Below.refl _ _).alloc (Nat.le_refl _) _⟩
  · have q1 := (cj h1).1
    go_enter Tryz.func44, Tryz.ntmps44
    go_wp2
    all_goals
      go_ret
      refine ⟨bn ?_, (Below.refl _ _).alloc (Nat.le_refl _) _⟩
      unfold fQ
      rw [Bool.eq_iff_iff]
      (repeat' split) <;> simp_all <;> omega
end Go.Proofs.YtklcfjlmlbnkaaaGreatDoor
namespace Go.Proofs.YtklcfjlmlbnkaaaGreatDoor
open Go.RowKit
theorem fF {f : FrV} (h : f.kind < 1 ∨ 9 < f.kind ∨ eA f.kind f.strm = false ∨ fQ f.kind f.num = false ∨ ir f.kind f.data = false) : ay f = 1 := by unfold ay; rw [if_pos h]
theorem qW {f : FrV} (h : ¬ (f.kind < 1 ∨ 9 < f.kind ∨ eA f.kind f.strm = false ∨ fQ f.kind f.num = false ∨ ir f.kind f.data = false)) (h2 : 16384 < f.data.size ∨ 2147483647 < f.strm) : ay f = 3 := by unfold ay; rw [if_neg h, if_pos h2]
theorem zk {f : FrV} (h : ¬ (f.kind < 1 ∨ 9 < f.kind ∨ eA f.kind f.strm = false ∨ fQ f.kind f.num = false ∨ ir f.kind f.data = false)) (h2 : ¬ (16384 < f.data.size ∨ 2147483647 < f.strm)) : ay f = if f.kind = 1 then (cM f.data).err else if f.kind = 4 then (aV f.data).err else 0 := by unfold ay; rw [if_neg h, if_neg h2]
theorem aQ {n : Nat} {w w1 w2 : World} (h : Below n w w1) (hn : n ≤ w.heap.size) (h2 : Below w1.heap.size w1 w2) : Below n w w2 := h.trans (h2.mono (Nat.le_trans hn h.size))
theorem bD (w : World) (o : Obj) : Below w.heap.size w (w.alloc o) := (Below.refl _ _).alloc (Nat.le_refl _) _
theorem be {w w' : World} {f : FrV} (h : Below (w.heap.size + 1) (w.alloc (Obj.cells (aY f) FT)) w') :
    w'.cell? ⟨w.heap.size, 0, none⟩ = some (.int .i64 f.kind) ∧ w'.cell? ⟨w.heap.size, 1, none⟩ = some (.int .i64 f.strm) ∧ w'.cell? ⟨w.heap.size, 2, none⟩ = some (.int .i64 f.num) ∧ w'.cell? ⟨w.heap.size, 3, none⟩ = some (.string f.data) := by
  have hB : Bk w' w.heap.size FT (aY f) := (h.block _ (Nat.lt_succ_self _)).trans (Bk.new w FT (aY f))
  exact ⟨hB.at_ 0 rfl, hB.at_ 1 rfl, hB.at_ 2 rfl, hB.at_ 3 rfl⟩
theorem br {w w' : World} {o : Obj} (h : Below (w.heap.size + 1) (w.alloc o) w') : Below w.heap.size w w' := (bD w o).trans (h.mono (Nat.le_succ _))
set_option maxHeartbeats 1600000 in
theorem hJ (f : FrV) (w : World) (hlen : MLen w) (hs : f.data.size < 4294967281) :
    Calls Tryz.prog 21 #[.agg (aY f)] w fun e w' => e = .returned (.int .i64 (ay f)) ∧ Below w.heap.size w w' := by
  obtain ⟨k, s, n, d⟩ := f
  have HG := Lib.hid hlen; clear hlen
  have hs : d.size < 4294967281 := hs
  have HS := Lib.hid (fun w => sq k s n d w)
  have HN := Lib.hid (fun w => sr k s n d w)
  have HF := Lib.hid (fun w => wC k s n d w)
  have HH := Lib.hid (fun w hg => rY d w hg hs)
  have HU := Lib.hid (fun w => lH d w (by omega))
  by_cases h1 : k < 1
  · have HR := Lib.hid (fF (f := ⟨k, s, n, d⟩) (.inl h1))
    have HB0 := Lib.hid (bD w (Obj.cells (aY ⟨k, s, n, d⟩) FT)); have KB0 := Lib.hid (Below.refl (w.heap.size + 1) (w.alloc (Obj.cells (aY ⟨k, s, n, d⟩) FT))); have hsz : w.heap.size + 1 ≤ (w.alloc (Obj.cells (aY ⟨k, s, n, d⟩) FT)).heap.size := by simp
    go_enter Tryz.func21, Tryz.ntmps21
    go_wp2_with fail
    go_ret
    exact ⟨by (rw [HR.out]; try rfl), HB0.out⟩
  by_cases h2 : 9 < k
  · have HR := Lib.hid (fF (f := ⟨k, s, n, d⟩) (.inr (.inl h2)))
    have HB0 := Lib.hid (bD w (Obj.cells (aY ⟨k, s, n, d⟩) FT)); have KB0 := Lib.hid (Below.refl (w.heap.size + 1) (w.alloc (Obj.cells (aY ⟨k, s, n, d⟩) FT))); have hsz : w.heap.size + 1 ≤ (w.alloc (Obj.cells (aY ⟨k, s, n, d⟩) FT)).heap.size := by simp
    go_enter Tryz.func21, Tryz.ntmps21
    go_wp2_with fail
    go_ret
    exact ⟨by (rw [HR.out]; try rfl), HB0.out⟩
  by_cases h3 : eA k s = false
  · have HR := Lib.hid (fF (f := ⟨k, s, n, d⟩) (.inr (.inr (.inl h3))))
    have HB0 := Lib.hid (bD w (Obj.cells (aY ⟨k, s, n, d⟩) FT)); have KB0 := Lib.hid (Below.refl (w.heap.size + 1) (w.alloc (Obj.cells (aY ⟨k, s, n, d⟩) FT))); have hsz : w.heap.size + 1 ≤ (w.alloc (Obj.cells (aY ⟨k, s, n, d⟩) FT)).heap.size := by simp
    rw [h3] at HS
    clear h3
    go_enter Tryz.func21, Tryz.ntmps21
    go_wp2_with fail
    refine (HS.out _).mono ?_; rintro e w1 ⟨rfl, hb1⟩
    have KB1 := Lib.hid (aQ KB0.out hsz hb1); have HB1 := Lib.hid (br KB1.out); obtain ⟨c10, c11, c12, c13⟩ := be (f := ⟨k, s, n, d⟩) KB1.out
    go_wp2_with fail
    go_ret
    exact ⟨by (rw [HR.out]; try rfl), HB1.out⟩
  have h3t : eA k s = true := by cases h : eA k s <;> simp_all
  rw [h3t] at HS
  by_cases h4 : fQ k n = false
  · have HR := Lib.hid (fF (f := ⟨k, s, n, d⟩) (.inr (.inr (.inr (.inl h4)))))
    have HB0 := Lib.hid (bD w (Obj.cells (aY ⟨k, s, n, d⟩) FT)); have KB0 := Lib.hid (Below.refl (w.heap.size + 1) (w.alloc (Obj.cells (aY ⟨k, s, n, d⟩) FT))); have hsz : w.heap.size + 1 ≤ (w.alloc (Obj.cells (aY ⟨k, s, n, d⟩) FT)).heap.size := by simp
    rw [h4] at HN
    clear h4
    go_enter Tryz.func21, Tryz.ntmps21
    go_wp2_with fail
    refine (HS.out _).mono ?_; rintro e w1 ⟨rfl, hb1⟩
    have KB1 := Lib.hid (aQ KB0.out hsz hb1); have HB1 := Lib.hid (br KB1.out); obtain ⟨c10, c11, c12, c13⟩ := be (f := ⟨k, s, n, d⟩) KB1.out
    go_wp2_with fail
    refine (HN.out _).mono ?_; rintro e w2 ⟨rfl, hb2⟩
    have KB2 := Lib.hid (aQ KB1.out hsz hb2); have HB2 := Lib.hid (br KB2.out); obtain ⟨c20, c21, c22, c23⟩ := be (f := ⟨k, s, n, d⟩) KB2.out
    go_wp2_with fail
    go_ret
    exact ⟨by (rw [HR.out]; try rfl), HB2.out⟩
  have h4t : fQ k n = true := by cases h : fQ k n <;> simp_all
  rw [h4t] at HN
  by_cases h5 : ir k d = false
  · have HR := Lib.hid (fF (f := ⟨k, s, n, d⟩) (.inr (.inr (.inr (.inr h5)))))
    have HB0 := Lib.hid (bD w (Obj.cells (aY ⟨k, s, n, d⟩) FT)); have KB0 := Lib.hid (Below.refl (w.heap.size + 1) (w.alloc (Obj.cells (aY ⟨k, s, n, d⟩) FT))); have hsz : w.heap.size + 1 ≤ (w.alloc (Obj.cells (aY ⟨k, s, n, d⟩) FT)).heap.size := by simp
    rw [h5] at HF
    clear h3 h3t h4 h4t h5
    go_enter Tryz.func21, Tryz.ntmps21
    go_wp2_with fail
    refine (HS.out _).mono ?_; rintro e w1 ⟨rfl, hb1⟩
    have KB1 := Lib.hid (aQ KB0.out hsz hb1); have HB1 := Lib.hid (br KB1.out); obtain ⟨c10, c11, c12, c13⟩ := be (f := ⟨k, s, n, d⟩) KB1.out
    go_wp2_with fail
    refine (HN.out _).mono ?_; rintro e w2 ⟨rfl, hb2⟩
    have KB2 := Lib.hid (aQ KB1.out hsz hb2); have HB2 := Lib.hid (br KB2.out); obtain ⟨c20, c21, c22, c23⟩ := be (f := ⟨k, s, n, d⟩) KB2.out
    go_wp2_with fail
    refine (HF.out _).mono ?_; rintro e w3 ⟨rfl, hb3⟩
    have KB3 := Lib.hid (aQ KB2.out hsz hb3); have HB3 := Lib.hid (br KB3.out); obtain ⟨c30, c31, c32, c33⟩ := be (f := ⟨k, s, n, d⟩) KB3.out
    go_wp2_with fail
    go_ret
    exact ⟨by (rw [HR.out]; try rfl), HB3.out⟩
  have h5t : ir k d = true := by cases h : ir k d <;> simp_all
  rw [h5t] at HF
  have hE : ¬ (k < 1 ∨ 9 < k ∨ eA k s = false ∨ fQ k n = false ∨ ir k d = false) := by simp_all
  by_cases h6 : 16384 < d.size
  · have HR := Lib.hid (qW (f := ⟨k, s, n, d⟩) hE (.inl h6))
    have HB0 := Lib.hid (bD w (Obj.cells (aY ⟨k, s, n, d⟩) FT)); have KB0 := Lib.hid (Below.refl (w.heap.size + 1) (w.alloc (Obj.cells (aY ⟨k, s, n, d⟩) FT))); have hsz : w.heap.size + 1 ≤ (w.alloc (Obj.cells (aY ⟨k, s, n, d⟩) FT)).heap.size := by simp
    clear h3 h3t h4 h4t h5 h5t hE
    go_enter Tryz.func21, Tryz.ntmps21
    go_wp2_with fail
    refine (HS.out _).mono ?_; rintro e w1 ⟨rfl, hb1⟩
    have KB1 := Lib.hid (aQ KB0.out hsz hb1); have HB1 := Lib.hid (br KB1.out); obtain ⟨c10, c11, c12, c13⟩ := be (f := ⟨k, s, n, d⟩) KB1.out
    go_wp2_with fail
    refine (HN.out _).mono ?_; rintro e w2 ⟨rfl, hb2⟩
    have KB2 := Lib.hid (aQ KB1.out hsz hb2); have HB2 := Lib.hid (br KB2.out); obtain ⟨c20, c21, c22, c23⟩ := be (f := ⟨k, s, n, d⟩) KB2.out
    go_wp2_with fail
    refine (HF.out _).mono ?_; rintro e w3 ⟨rfl, hb3⟩
    have KB3 := Lib.hid (aQ KB2.out hsz hb3); have HB3 := Lib.hid (br KB3.out); obtain ⟨c30, c31, c32, c33⟩ := be (f := ⟨k, s, n, d⟩) KB3.out
    go_wp2_with fail
    go_ret
    exact ⟨by (rw [HR.out]; try rfl), HB3.out⟩
  by_cases h7 : 2147483647 < s
  · have HR := Lib.hid (qW (f := ⟨k, s, n, d⟩) hE (.inr h7))
    have HB0 := Lib.hid (bD w (Obj.cells (aY ⟨k, s, n, d⟩) FT)); have KB0 := Lib.hid (Below.refl (w.heap.size + 1) (w.alloc (Obj.cells (aY ⟨k, s, n, d⟩) FT))); have hsz : w.heap.size + 1 ≤ (w.alloc (Obj.cells (aY ⟨k, s, n, d⟩) FT)).heap.size := by simp
    clear h3 h3t h4 h4t h5 h5t hE
    go_enter Tryz.func21, Tryz.ntmps21
    go_wp2_with fail
    refine (HS.out _).mono ?_; rintro e w1 ⟨rfl, hb1⟩
    have KB1 := Lib.hid (aQ KB0.out hsz hb1); have HB1 := Lib.hid (br KB1.out); obtain ⟨c10, c11, c12, c13⟩ := be (f := ⟨k, s, n, d⟩) KB1.out
    go_wp2_with fail
    refine (HN.out _).mono ?_; rintro e w2 ⟨rfl, hb2⟩
    have KB2 := Lib.hid (aQ KB1.out hsz hb2); have HB2 := Lib.hid (br KB2.out); obtain ⟨c20, c21, c22, c23⟩ := be (f := ⟨k, s, n, d⟩) KB2.out
    go_wp2_with fail
    refine (HF.out _).mono ?_; rintro e w3 ⟨rfl, hb3⟩
    have KB3 := Lib.hid (aQ KB2.out hsz hb3); have HB3 := Lib.hid (br KB3.out); obtain ⟨c30, c31, c32, c33⟩ := be (f := ⟨k, s, n, d⟩) KB3.out
    go_wp2_with fail
    go_ret
    exact ⟨by (rw [HR.out]; try rfl), HB3.out⟩
  have hE2 : ¬ (16384 < d.size ∨ 2147483647 < s) := by omega
  have HE := Lib.hid (zk (f := ⟨k, s, n, d⟩) hE hE2)
  clear h3 h3t h4 h4t h5 h5t hE hE2
  have HB0 := Lib.hid (bD w (Obj.cells (aY ⟨k, s, n, d⟩) FT)); have KB0 := Lib.hid (Below.refl (w.heap.size + 1) (w.alloc (Obj.cells (aY ⟨k, s, n, d⟩) FT))); have hsz : w.heap.size + 1 ≤ (w.alloc (Obj.cells (aY ⟨k, s, n, d⟩) FT)).heap.size := by simp
  by_cases h8 : k = 1
  · subst h8
    have HR := Lib.hid (HE.out.trans (if_pos rfl))
    go_enter Tryz.func21, Tryz.ntmps21
    go_wp2_with fail
    refine (HS.out _).mono ?_; rintro e w1 ⟨rfl, hb1⟩
    have KB1 := Lib.hid (aQ KB0.out hsz hb1); have HB1 := Lib.hid (br KB1.out); obtain ⟨c10, c11, c12, c13⟩ := be (f := ⟨1, s, n, d⟩) KB1.out
    go_wp2_with fail
    refine (HN.out _).mono ?_; rintro e w2 ⟨rfl, hb2⟩
    have KB2 := Lib.hid (aQ KB1.out hsz hb2); have HB2 := Lib.hid (br KB2.out); obtain ⟨c20, c21, c22, c23⟩ := be (f := ⟨1, s, n, d⟩) KB2.out
    go_wp2_with fail
    refine (HF.out _).mono ?_; rintro e w3 ⟨rfl, hb3⟩
    have KB3 := Lib.hid (aQ KB2.out hsz hb3); have HB3 := Lib.hid (br KB3.out); obtain ⟨c30, c31, c32, c33⟩ := be (f := ⟨1, s, n, d⟩) KB3.out
    go_wp2_with fail
    refine (HH.out _ (HG.out.below HB3.out)).mono ?_; rintro e w4 ⟨v, rfl, hmi, hb4⟩
    have KB4 := Lib.hid (aQ KB3.out hsz hb4); have HB4 := Lib.hid (br KB4.out)
    clear hmi
    go_wp2_with fail
    go_ret
    exact ⟨by (rw [HR.out]; try rfl), HB4.out⟩
  by_cases h9 : k = 4
  · subst h9
    have HR := Lib.hid (HE.out.trans ((if_neg (by simp)).trans (if_pos rfl)))
    go_enter Tryz.func21, Tryz.ntmps21
    go_wp2_with fail
    refine (HS.out _).mono ?_; rintro e w1 ⟨rfl, hb1⟩
    have KB1 := Lib.hid (aQ KB0.out hsz hb1); have HB1 := Lib.hid (br KB1.out); obtain ⟨c10, c11, c12, c13⟩ := be (f := ⟨4, s, n, d⟩) KB1.out
    go_wp2_with fail
    refine (HN.out _).mono ?_; rintro e w2 ⟨rfl, hb2⟩
    have KB2 := Lib.hid (aQ KB1.out hsz hb2); have HB2 := Lib.hid (br KB2.out); obtain ⟨c20, c21, c22, c23⟩ := be (f := ⟨4, s, n, d⟩) KB2.out
    go_wp2_with fail
    refine (HF.out _).mono ?_; rintro e w3 ⟨rfl, hb3⟩
    have KB3 := Lib.hid (aQ KB2.out hsz hb3); have HB3 := Lib.hid (br KB3.out); obtain ⟨c30, c31, c32, c33⟩ := be (f := ⟨4, s, n, d⟩) KB3.out
    go_wp2_with fail
    refine (HU.out _).mono ?_; rintro e w4 ⟨rfl, hb4⟩
    have KB4 := Lib.hid (aQ KB3.out hsz hb4); have HB4 := Lib.hid (br KB4.out); obtain ⟨c40, c41, c42, c43⟩ := be (f := ⟨4, s, n, d⟩) KB4.out
    go_wp2_with fail
    go_ret
    exact ⟨by (rw [HR.out]; try rfl), HB4.out⟩
  have HR := Lib.hid (HE.out.trans ((if_neg h8).trans (if_neg h9)))
  go_enter Tryz.func21, Tryz.ntmps21
  go_wp2_with fail
  refine (HS.out _).mono ?_; rintro e w1 ⟨rfl, hb1⟩
  have KB1 := Lib.hid (aQ KB0.out hsz hb1); have HB1 := Lib.hid (br KB1.out); obtain ⟨c10, c11, c12, c13⟩ := be (f := ⟨k, s, n, d⟩) KB1.out
  go_wp2_with fail
  refine (HN.out _).mono ?_; rintro e w2 ⟨rfl, hb2⟩
  have KB2 := Lib.hid (aQ KB1.out hsz hb2); have HB2 := Lib.hid (br KB2.out); obtain ⟨c20, c21, c22, c23⟩ := be (f := ⟨k, s, n, d⟩) KB2.out
  go_wp2_with fail
  refine (HF.out _).mono ?_; rintro e w3 ⟨rfl, hb3⟩
  have KB3 := Lib.hid (aQ KB2.out hsz hb3); have HB3 := Lib.hid (br KB3.out); obtain ⟨c30, c31, c32, c33⟩ := be (f := ⟨k, s, n, d⟩) KB3.out
  go_wp2_with fail
  go_ret
  exact ⟨by (rw [HR.out]; try rfl), HB3.out⟩
end Go.Proofs.YtklcfjlmlbnkaaaGreatDoor
