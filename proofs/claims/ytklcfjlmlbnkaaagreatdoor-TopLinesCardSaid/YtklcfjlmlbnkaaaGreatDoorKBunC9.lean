/- Texts of this claim merged into one: KCn9, KCnT. -/
import Derived.Test.YtklcfjlmlbnkaaaGreatDoorKBunT
import Derived.Test.YtklcfjlmlbnkaaaGreatDoorKBunC7
namespace Go.Proofs.YtklcfjlmlbnkaaaGreatDoor.Y
open Go.RowKit
theorem uI {A : Nat → Prop} {w w1 w2 : World} {M : List Ent} {s : NV} (hm : Mem w w1 M) (h : OutN (fun b => A b ∧ b < w.heap.size) w1 w2 s) : ∃ F : Nat → Prop, (∀ b, F b → A b ∨ w.heap.size ≤ b) ∧ Mem w w2 (.rep F (fun w => NOk F w s) :: M) :=
  ⟨_, fun _ hb => hb.1.elim (fun h => .inl h.1) (fun h => .inr (Nat.le_trans hm.1.size h)), Mem.out hm (A := fun b => A b ∧ b < w.heap.size) (fun _ hb _ hf => kV hm hb.2 hf) h.2 (fun F w => NOk F w s) h.1.lt (fun _ _ _ hk h => h.agree hk)⟩
theorem rm {A : Nat → Prop} {w w' : World} {F : Nat → Prop} {s : NV} (h : NOk F w' s) (hF : ∀ b, F b → A b ∨ w.heap.size ≤ b) (hb : Below w.heap.size w w') : OutN A w w' s := ⟨h.mono hF, hb⟩
theorem DZ {w0 w : World} {M : List Ent} {g : Nat} {T : TypeId} {a b c d v : Value} {r : List Value} (i : Nat) (hM : Mem w0 w M) (h : dI M i = some (.cl g T (a :: b :: c :: d :: v :: r))) : w.cell? ⟨g, 0 + 4, none⟩ = some v := by
  have hb : Bk w g T ⟨a :: b :: c :: d :: v :: r⟩ := (hM.2.get (i := i) h).2
  exact hb.at_ 4 rfl
theorem zw (h : jU) : (jL h).err = bQ h := by
  unfold jL
  split
  · rename_i h0; exact h0.symm
  · rfl
theorem GZ {A : Nat → Prop} {w : World} {x : Option Addr} {l : List (ByteArray × ByteArray)} (h : Rws A w 2 mC x l) (cap : Nat) : MsIn w (.slice x l.length cap) l := by
  refine ⟨x, cap, rfl, fun hne => ?_⟩
  obtain ⟨b, off, h1, _, h2, h3⟩ := h (List.length_pos_iff.2 hne)
  exact ⟨b, off, h1, h2, fun i hi => ⟨h3 i _ (List.getElem?_eq_getElem hi) 0 _ rfl, h3 i _ (List.getElem?_eq_getElem hi) 1 _ rfl⟩⟩
theorem G0 {A : Nat → Prop} (h : jU) (x : Option Addr) (c : Nat) (e : Int) (he : bQ h = e) (w : World) (hg : MLen w) (hm : Rws A w 2 mC x h.metas) (hz : lg h) : Calls Tryz.prog 20 #[.agg ⟨[.string h.svc, .string h.mth, .int .i64 h.late, .slice x h.metas.length c]⟩] w fun r w' => r = .returned (.tuple ⟨[.string (um h), .int .i64 e]⟩) ∧ Below w.heap.size w w' := by
  have h1 := tW h (.slice x h.metas.length c) w hg (GZ hm c) hz
  rw [zw, he] at h1
  exact h1
theorem EU (f : FrV) (e : Int) (h : ay f = e) (w : World) (hg : MLen w) (hs : f.data.size < 4294967281) : Calls Tryz.prog 21 #[.agg #[.int .i64 f.kind, .int .i64 f.strm, .int .i64 f.num, .string f.data]] w fun r w' => r = .returned (.int .i64 e) ∧ Below w.heap.size w w' := by
  subst h
  exact hJ f w hg hs
theorem BL (id sd sh n : Int) (r : C9) (h : dq id sd sh n = r) (w : World) : Calls Tryz.prog 22 #[.int .i64 id, .int .i64 sd, .int .i64 sh, .int .i64 n] w fun e w' => e = .returned (.tuple #[.agg ⟨tC r.st⟩, .int .i64 r.err]) ∧ Below w.heap.size w w' := by
  subst h
  exact pp id sd sh n w
attribute [local irreducible] Calls
theorem uJ {c : NL} {msg : ByteArray} (h : qS c msg = 0) : msg.size < 4294967281 := by
  unfold qS at h
  split at h
  · omega
  · omega
set_option maxRecDepth 100000 in
set_option maxHeartbeats 8000000 in
theorem uK {A : Nat → Prop} (v : NV) (id : Int) (msg : ByteArray) (w : World) (hN : NOk A w v) (hz : DP v) (hgd : FJ v) (hg : MLen w) : Calls Tryz.prog 12 #[.agg ⟨NC v⟩, .int .i64 id, .string msg] w fun e w' => ∃ v' : NV, v'.c = (fD v.c id msg).1 ∧ e = .returned (.tuple #[.agg ⟨NC v'⟩, .int .i64 (fD v.c id msg).2]) ∧ OutN A w w' v' := by
  refine aA Tryz.func12 rfl Tryz.ntmps12 J J ?_
  refine bc ?_
  refine aH ?_
  (refine bx ?_; intro g3)
  (refine bx ?_; intro g5)
  repeat' (first | refine vx rfl (AC J J trivial rfl ⟨J, J, trivial⟩) ?_ | (refine al ?_; intro g6) | refine nx ?_)
  refine kw (σ := NV) (fun s F => s.c = (fD v.c id msg).1 ∧ ∀ b, F b → A b ∨ w.heap.size ≤ b) (fun s => .tuple ⟨[.agg ⟨NC s⟩, .int .i64 (fD v.c id msg).2]⟩) (fun s F w => NOk F w s) rfl (ap J J J J ⟨J, J, J, trivial⟩ rfl (by kernel_rfl)) (fun w1 hm => (wH v (⟨2, id, 0, msg⟩ : FrV) (qS v.c msg) msg g5 g3 w1 (hN.lt.below hm.below) hz hgd (fun h => uJ h) (hg.below hm.below) (Bv 1 hm rfl) (DZ 2 hm rfl) rfl).mono fun e w2 ⟨s, h1, h2, h3⟩ => by obtain ⟨F, h4, h5⟩ := uI hm h3; exact ⟨s, F, ⟨h1, h4⟩, h2, h5⟩) J J ?_
  rintro ⟨c1, x1, xc1, kv1, o1, oc1, p1, pc1⟩ F ⟨hc1, hF⟩
  dsimp only at hc1
  repeat' refine cV ?_
  (refine rt ?_; refine fun w1 hm => ⟨⟨c1, x1, xc1, kv1, o1, oc1, p1, pc1⟩, hc1, rfl, rm (hm.2.get (i := 0) rfl).2.1 hF hm.below⟩)
theorem wJ {A : Nat → Prop} (v : NV) (id : Int) (msg : ByteArray) (w : World) (hN : NOk A w v) (hz : DP v) (hgd : FJ v) (hg : MLen w) (_hmsg : msg.size < 4294967281) : Calls Tryz.prog 12 #[.agg ⟨NC v⟩, .int .i64 id, .string msg] w fun e w' => ∃ v' : NV, v'.c = (fD v.c id msg).1 ∧ e = .returned (.tuple #[.agg ⟨NC v'⟩, .int .i64 (fD v.c id msg).2]) ∧ OutN A w w' v' := uK v id msg w hN hz hgd hg
set_option maxRecDepth 100000 in
set_option maxHeartbeats 32000000 in
theorem zx {A : Nat → Prop} (v : NV) (h : jU) (hx : Option Addr) (hc : Nat) (sh : Int) (w : World) (hN : NOk A w v) (hz : DP v) (hgd : FJ v) (hg : MLen w) (hact : sE v.c.ks = dO v.c.ks) (hkl : v.kv.length ≤ 1000000000) (hH : Rws A w 2 mC hx h.metas) (hhz : lg h) (hds : (um h).size < 4294967281) (hml : h.metas.length ≤ 2000000) : Calls Tryz.prog 11 #[.agg ⟨NC v⟩, .agg #[.string h.svc, .string h.mth, .int .i64 h.late, .slice hx h.metas.length hc], .int .i64 sh] w fun e w' => ∃ v' : NV, v'.c = (cu v.c h sh).1 ∧ e = .returned (.tuple #[.agg ⟨NC v'⟩, .int .i64 (cu v.c h sh).2.1, .int .i64 (cu v.c h sh).2.2]) ∧ OutN A w w' v' := by
  refine aA Tryz.func11 rfl Tryz.ntmps11 J J ?_
  have hzk := hz.ks
  have hoe : oZ v.c h sh = if v.c.sd ≠ 1 ∨ v.c.cl = true ∨ v.c.aw ≠ 0 then 20 else if 64 ≤ dO v.c.ks then 22 else if bQ h ≠ 0 then bQ h else if ay (jP v.c h sh) ≠ 0 then ay (jP v.c h sh) else (dq v.c.nx 1 sh v.c.sz).err := rfl
  repeat' (first | (refine bx ?_; intro g3) | (refine al ?_; intro g6) | refine nx ?_)
  by_cases h0 : v.c.sd ≠ 1 ∨ v.c.cl = true ∨ v.c.aw ≠ 0
  · have hol : cu v.c h sh = (v.c, 0, 20) := by unfold cu; rw [hoe, if_pos h0]; rfl
    refine aq rfl (by
      rcases h0 with h0 | h0 | h0
      · simp [h0]
      · simp [h0]
      · simp [h0]) ?_
    repeat' refine nx ?_
    (refine rt ?_; refine fun w1 hm => ⟨v, ?_, ?_, OutN.same hN hm.below⟩)
    · rw [hol]
    · rw [hol]; rfl
  rw [if_neg h0] at hoe
  refine ai rfl (by
    have h1 : v.c.sd = 1 := by omega
    have h2 : v.c.cl = false := eq_false_of_ne_true fun h => h0 (.inr (.inl h))
    have h3 : v.c.aw = 0 := by omega
    rw [h1, h2, h3]; rfl) ?_
  repeat' refine nx ?_
  refine cQ (σ := Nat × Array MapEntry × Nat) (fun s => s.2.1.size = sE v.c.ks) (fun s => .map (some s.1)) (fun s => [.obj s.1 (.map s.2.1 s.2.2)]) rfl (ap J J J J ⟨J, trivial⟩ rfl (by kernel_rfl)) (fun w1 hm => uH v w1 (hN.below hm.below) (by omega)) J J ?_
  rintro ⟨gm, es, ck⟩ hes
  dsimp only [List.cons_append, List.nil_append]
  dsimp only at hes
  rw [hact] at hes
  repeat' (first | refine vx rfl (xW 0 J J J J Tryz.underlying69) ?_ | refine cV ?_)
  by_cases h64 : 64 ≤ dO v.c.ks
  · have hol : cu v.c h sh = (v.c, 0, 22) := by unfold cu; rw [hoe, if_pos h64]; rfl
    refine aq rfl (by rw [hes]; simp; omega) ?_
    repeat' refine nx ?_
    (refine rt ?_; refine fun w1 hm => ⟨v, ?_, ?_, OutN.same hN hm.below⟩)
    · rw [hol]
    · rw [hol]; rfl
  rw [if_neg h64] at hoe
  refine ai rfl (by rw [hes]; simp; omega) ?_
  obtain ⟨eh, heh⟩ : ∃ x, bQ h = x := ⟨_, rfl⟩
  rw [heh] at hoe
  repeat' (first | refine cl (fun w hm => G0 h hx hc eh heh w (hg.below hm.below) (hH.below hm.below) hhz) ?_ | refine nx ?_)
  by_cases heh : eh = 0
  rotate_left
  · have hol : cu v.c h sh = (v.c, 0, eh) := by unfold cu; rw [hoe]; rw [if_pos heh, if_pos heh]
    refine aq rfl (by simpa using heh) ?_
    repeat' refine nx ?_
    (refine rt ?_; refine fun w1 hm => ⟨v, ?_, ?_, OutN.same hN hm.below⟩)
    · rw [hol]
    · rw [hol]; rfl
  refine ai rfl (by simpa using heh) ?_
  rw [if_neg (by simpa using heh)] at hoe
  obtain ⟨ef, hef⟩ : ∃ x, ay (jP v.c h sh) = x := ⟨_, rfl⟩
  rw [hef] at hoe
  repeat' (first | (refine al ?_; intro g11) | refine cl (fun w hm => EU (jP v.c h sh) ef hef w (hg.below hm.below) hds) ?_ | refine nx ?_)
  by_cases hef : ef = 0
  rotate_left
  · have hol : cu v.c h sh = (v.c, 0, ef) := by unfold cu; rw [hoe]; rw [if_pos hef, if_pos hef]
    refine aq rfl (by simpa using hef) ?_
    repeat' refine nx ?_
    (refine rt ?_; refine fun w1 hm => ⟨v, ?_, ?_, OutN.same hN hm.below⟩)
    · rw [hol]
    · rw [hol]; rfl
  refine ai rfl (by simpa using hef) ?_
  rw [if_neg (by simpa using hef)] at hoe
  obtain ⟨r, hr⟩ : ∃ x, dq v.c.nx 1 sh v.c.sz = x := ⟨_, rfl⟩
  rw [hr] at hoe
  repeat' (first | (refine al ?_; intro g13) | refine cl (fun w hm => BL v.c.nx 1 sh v.c.sz r hr w) ?_ | refine nx ?_)
  obtain ⟨er, her⟩ : ∃ x, r.err = x := ⟨_, rfl⟩
  rw [her] at hoe ⊢
  by_cases hez : er = 0
  rotate_left
  · have hol : cu v.c h sh = (v.c, 0, er) := by unfold cu; rw [hoe, if_pos hez]
    refine aq rfl (by simpa using hez) ?_
    repeat' refine nx ?_
    (refine rt ?_; refine fun w1 hm => ⟨v, ?_, ?_, OutN.same hN hm.below⟩)
    · rw [hol]
    · rw [hol]; rfl
  refine ai rfl (by simpa using hez) ?_
  have hnx : 1 ≤ v.c.nx ∧ v.c.nx ≤ 2147483647 := by
    unfold dq at hr
    split at hr
    · rw [← hr] at her
      rw [hez] at her
      cases her
    · omega
  have hol : cu v.c h sh = ({ v.c with ks := v.c.ks ++ [⟨r.st, h.svc, h.mth, h.late, h.metas, [], []⟩], ou := v.c.ou ++ [jP v.c h sh], la := v.c.nx, nx := v.c.nx + 1 }, v.c.nx, 0) := by unfold cu; rw [hoe, if_neg (by simpa using hez), hr]
  rw [hol]
  repeat' refine nx ?_
  refine cQ (σ := NV) (fun s => s.c = v.c ∧ s.kv.map (·.k) = v.kv.map (·.k)) (fun s => .agg ⟨NC s⟩) (fun s => EN s) rfl (ap J J J J ⟨J, trivial⟩ rfl (by kernel_rfl)) (fun w1 hm => jg v w1 (hN.below hm.below) hz) J J ?_
  rintro ⟨c1, x1, xc1, kv1, o1, oc1, p1, pc1⟩ ⟨hc1, hkm⟩
  dsimp only at hc1 hkm
  subst hc1
  dsimp only [EN, List.cons_append, List.nil_append]
  have hkl1 : kv1.length ≤ 1000000000 := by rw [pu hkm]; exact hkl
  have hou := hgd.ou
  refine cR (fun w h => h.perm (Bg [_, _, _] (kv1.flatMap EK) [_, _, _, _, _, _])) ?_
  dsimp only [List.cons_append, List.nil_append]
  repeat' (first | (refine al ?_; intro g14) | refine nx ?_)
  refine cQ (σ := Option Addr × Nat) (fun _ => True) (fun p => .slice p.1 h.metas.length p.2) (fun p => [.own p.1 p.2 85 2 h.metas.length (h.metas.flatMap mC)]) rfl (ap J J J J ⟨J, trivial⟩ rfl (by kernel_rfl)) (fun w1 hm => pe hx h.metas hc w1 (hH.below hm.below) (by omega)) J J ?_
  rintro ⟨pm, pmc⟩ -
  dsimp only [List.cons_append, List.nil_append]
  repeat' (first | refine vx rfl (bd J J J J J (by omega)) ?_ | refine vx rfl (ab af 12 J J J J J) ?_ | (refine cE af J J J ⟨J, trivial⟩ J J J J J J J J ?_; intro g) | (refine bA af 5 0 J J J J J J J J J (fun _ _ => rfl) wt J J (by unfold maxLen; omega) (by omega) J J ?_; intro sa sc) | (refine bA af 5 0 J J J J J J J J J (fun _ _ => rfl) lw J J (by unfold maxLen; omega) (by omega) J J ?_; intro fa fac) | refine nx ?_)
  refine gW [true, true, true, true, true, true, true, true, true, true, false] am (by kernel_rfl) ?_
  iterate 3 (((refine' zb J J ?_ J J ?_); rotate_left; first | exact aI af J J J J | exact ab af 3 J J J J J | exact ab af 11 J J J J J))
  refine gV af 10 J J J J J J J J J J J J (fun w h => h.mask [true, true, true, true, true, true, true, true, true, true, false] rfl) ?_
  iterate 2 (((refine' zb J J ?_ J J ?_); rotate_left; exact aI af J J J J))
  refine oW ?_
  repeat' refine cV ?_
  (refine rt ?_; refine fun w1 hm => ⟨⟨{ v.c with ks := v.c.ks ++ [⟨r.st, h.svc, h.mth, h.late, h.metas, [], []⟩], ou := v.c.ou ++ [jP v.c h sh], la := v.c.nx, nx := v.c.nx + 1 }, sa, sc, kv1 ++ [(⟨⟨r.st, h.svc, h.mth, h.late, h.metas, [], []⟩, pm, pmc, none, 0, none, 0⟩ : KV)], fa, fac, p1, pc1⟩, rfl, ?_, ⟨?_, hm.below⟩⟩)
  · unfold NC
    simp only [List.length_append, List.length_singleton]
  · have g5 := hm.2.get (i := 5) rfl
    have g6 := hm.2.get (i := 6) rfl
    have hks : w1.ownsRow w.heap.size 87 22 (.slice sa (kv1 ++ [(⟨⟨r.st, h.svc, h.mth, h.late, h.metas, [], []⟩, pm, pmc, none, 0, none, 0⟩ : KV)]).length sc) (kv1 ++ [(⟨⟨r.st, h.svc, h.mth, h.late, h.metas, [], []⟩, pm, pmc, none, 0, none, 0⟩ : KV)]).length ((kv1 ++ [(⟨⟨r.st, h.svc, h.mth, h.late, h.metas, [], []⟩, pm, pmc, none, 0, none, 0⟩ : KV)]).flatMap KC) := by
      rw [List.length_append, List.flatMap_append, List.flatMap_singleton]
      exact g6
    have hous : w1.ownsRow w.heap.size 74 4 (.slice fa (v.c.ou ++ [jP v.c h sh]).length fac) (v.c.ou ++ [jP v.c h sh]).length ((v.c.ou ++ [jP v.c h sh]).flatMap fC) := by
      rw [List.length_append, List.flatMap_append, List.flatMap_singleton]
      exact g5
    have hR : MemL w.heap.size w1 (kv1.flatMap EK) := (hm.mask [false, false, false, false, false, false, false, false, false, false, false, false, false] rfl).2
    refine ⟨(Rws.own aK hks).mono fun _ => .inr, (Rws.own ej hous).mono fun _ => .inr, (Rws.own fR (hm.2.get (i := 4) rfl)).mono fun _ => .inr, ?_, fun x hxm => ?_⟩
    · rw [List.map_append, hkm, hN.eq]; rfl
    · rcases List.mem_append.1 hxm with hxm | hxm
      · exact (KOk.own (qU hR hxm)).mono fun _ => .inr
      · obtain rfl := List.mem_singleton.1 hxm
        exact ⟨(Rws.own iK (hm.2.get (i := 2) rfl)).mono fun _ => .inr, dw, dw⟩
end Go.Proofs.YtklcfjlmlbnkaaaGreatDoor.Y
namespace Go.Proofs.YtklcfjlmlbnkaaaGreatDoor.Y
open Go.RowKit
def EV (A : Nat → Prop) (w : World) (M : List Ent) (F0 : Nat → Prop) : Prop := ∀ b, F0 b → (A b ∧ b < w.heap.size) ∨ ∃ i F p, dI M i = some (.rep F p) ∧ (∀ b, F b → A b ∨ w.heap.size ≤ b) ∧ F b
theorem D0 {A : Nat → Prop} {w : World} {M : List Ent} : EV A w M (fun b => A b ∧ b < w.heap.size) := fun _ h => .inl h
theorem D1 {A : Nat → Prop} {w : World} {M : List Ent} (i : Nat) {F : Nat → Prop} {p : World → Prop} (hF : ∀ b, F b → A b ∨ w.heap.size ≤ b) (hi : dI M i = some (.rep F p)) : EV A w M F := fun _ h => .inr ⟨i, F, p, hi, hF, h⟩
theorem D2 {A F0 : Nat → Prop} {w w1 w2 : World} {M : List Ent} {s : NV} (hm : Mem w w1 M) (hs : EV A w M F0) (h : OutN F0 w1 w2 s) : ∃ F : Nat → Prop, (∀ b, F b → A b ∨ w.heap.size ≤ b) ∧ Mem w w2 (.rep F (fun w => NOk F w s) :: M) :=
  ⟨_, fun b hb => hb.1.elim (fun h => (hs b h).elim (fun h => .inl h.1) fun ⟨_, _, _, _, hF, h⟩ => hF b h) (fun h => .inr (Nat.le_trans hm.1.size h)), Mem.out hm (A := F0) (fun b hb f hf => (hs b hb).elim (fun h => kV hm h.2 hf) fun ⟨_, _, _, hi, _, h⟩ => kU hm.2 hi b h f hf) h.2 (fun F w => NOk F w s) h.1.lt (fun _ _ _ hk h => h.agree hk)⟩
structure QS where
  V : NV
  F : Nat → Prop
  e : Int
section
variable {A F0 : Nat → Prop} {P : Program} {l0 rest : List Oper} {Q : Exit → Act → World → Prop} {n : Nat} {w : World} {S : bq} {M : List Ent} {o : Oper} {d : Nat} {f : FuncId} {args : List Value} {C : NL} {V : NV → Value}
theorem uL (hs : EV A w M F0) (hc : ∀ w1, Mem w w1 M → Calls P f ⟨args⟩ w1 fun e w2 => ∃ s : NV, s.c = C ∧ e = .returned (V s) ∧ OutN F0 w1 w2 s) (h : ∀ (s : NV) (F : Nat → Prop), s.c = C → (∀ b, F b → A b ∨ w.heap.size ≤ b) → SL P l0 Q rest n w ((d, [], V s) :: S) (.rep F (fun w => NOk F w s) :: M)) (ho : dd P S [] o f args := by first | exact ap J J J J ⟨J, trivial⟩ rfl (by kernel_rfl) | exact ap J J J J ⟨J, J, trivial⟩ rfl (by kernel_rfl) | exact ap J J J J ⟨J, J, J, trivial⟩ rfl (by kernel_rfl)) (hg : o.guard = none := by exact rfl) (hd : o.dst = some d := by exact rfl) (hn : Nat.blt d n = true := by exact rfl) : SL P l0 Q (o :: rest) n w S M :=
  kw (σ := NV) (fun s F => s.c = C ∧ ∀ b, F b → A b ∨ w.heap.size ≤ b) V (fun s F w => NOk F w s) hg ho (fun w1 hm => (hc w1 hm).mono fun e w2 ⟨s, h1, h2, h3⟩ => by obtain ⟨F, h5, h6⟩ := D2 hm hs h3; exact ⟨s, F, ⟨h1, h5⟩, h2, h6⟩) hd hn (fun s F hh => h s F hh.1 hh.2)
end
end Go.Proofs.YtklcfjlmlbnkaaaGreatDoor.Y
