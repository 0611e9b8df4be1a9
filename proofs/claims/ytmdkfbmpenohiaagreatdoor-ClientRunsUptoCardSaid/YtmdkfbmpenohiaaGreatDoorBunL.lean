/- Texts of this claim merged into one: CliU, Lw. -/
import Derived.Test.YtmdkfbmpenohiaaGreatDoorStp
import Derived.Test.YtmdkfbmpenohiaaGreatDoorBunO
namespace Go.Proofs.YtmdkfbmpenohiaaGreatDoor.Y
open Go.RowKit
section
variable {K : Nat} {w : World} {n : Nat} {cs : List Value}
theorem m7 {α : Type} {f : α → List Value} {sz : Nat} {x : Option Addr} {l : List α} (hf : ∀ a, (f a).length = sz) (hp : 0 < sz) (h : 0 < l.length → ∃ b off, x = some ⟨b, off, none⟩ ∧ ∀ j v, l[j]? = some v → w.rangeAt b (off + j * sz) (f v)) : Rws (fun _ => True) w sz f x l := fun h0 => by
  obtain ⟨b, off, h1, h2⟩ := h h0
  refine ⟨b, off, h1, trivial, ?_, h2⟩
  have h3 := h2 0 _ (List.getElem?_eq_getElem h0)
  have h4 : 0 < (f l[0]).length := by rw [hf]; exact hp
  exact block_lt_of_cell (h3 0 _ (List.getElem?_eq_getElem h4))
theorem pq (h : ja Tryz.prog tab K w (n + 1) 9 cs) : ∃ s : ByteArray, cs = sC s ∧ s.size ≤ K := by
  obtain ⟨s, e, z⟩ := eI rfl h
  exact ⟨s, e, z⟩
theorem su (h : ja Tryz.prog tab K w (n + 2) 119 cs) : ∃ m : ByteArray × ByteArray, cs = mC m ∧ m.1.size ≤ K ∧ m.2.size ≤ K := by
  obtain ⟨hl, hf⟩ := dB rfl h
  match cs, hl with
  | [c0, c1], _ =>
    obtain ⟨a, e_a, z_a⟩ := eI rfl (hf 0 0 9 _ J J)
    obtain rfl := (List.cons.inj e_a).1
    obtain ⟨b, e_b, z_b⟩ := eI rfl (hf 1 1 9 _ J J)
    obtain rfl := (List.cons.inj e_b).1
    exact ⟨(a, b), rfl, z_a, z_b⟩
theorem m8 (h : ja Tryz.prog tab K w (n + 2) 64 cs) : ∃ b : BV, cs = bC b ∧ True := by
  obtain ⟨hl, hf⟩ := dB rfl h
  match cs, hl with
  | [c0, c1, c2, c3, c4, c5], _ =>
    obtain ⟨a, e_a, z_a⟩ := eI rfl (hf 0 0 9 _ J J)
    obtain rfl := (List.cons.inj e_a).1
    obtain ⟨b, e_b, w_b⟩ := bG rfl (hf 1 1 3 _ J J)
    obtain rfl := (List.cons.inj e_b).1
    obtain ⟨c, e_c, w_c⟩ := bG rfl (hf 2 2 3 _ J J)
    obtain rfl := (List.cons.inj e_c).1
    obtain ⟨d, e_d, w_d⟩ := bG rfl (hf 3 3 3 _ J J)
    obtain rfl := (List.cons.inj e_d).1
    obtain ⟨e, e_e, w_e⟩ := bG rfl (hf 4 4 3 _ J J)
    obtain rfl := (List.cons.inj e_e).1
    obtain ⟨g, e_g, w_g⟩ := bG rfl (hf 5 5 3 _ J J)
    obtain rfl := (List.cons.inj e_g).1
    exact ⟨⟨a, b, c, d, e, g⟩, rfl, trivial⟩
structure SzK (K : Nat) (q : QR) : Prop where
  ms : q.ms.length ≤ K
  mg : q.mg.length ≤ K
  an : q.an.length ≤ K
  sv : q.sv.size ≤ K
  mt : q.mt.size ≤ K
  me : ∀ m ∈ q.ms, m.1.size ≤ K ∧ m.2.size ≤ K
theorem SzK.szq {q : QR} (h : SzK K q) (hK : K ≤ 1048576) : eP q := by
  have h1 := h.ms
  have h2 := h.mg
  have h3 := h.an
  exact ⟨by omega, by omega, by omega⟩
theorem SzK.hd {q : QR} (h : SzK K q) (hK : K ≤ 1048576) : dH q.hd := by
  have h1 := h.sv
  have h2 := h.mt
  refine ⟨?_, ?_, fun m hm => ?_⟩
  · show q.sv.size < _; omega
  · show q.mt.size < _; omega
  · have := h.me m hm
    omega
theorem pr (h : ja Tryz.prog tab K w (n + 6) 50 cs) : ∃ v : QV, cs = QC v ∧ QOk (fun _ => True) w v ∧ SzK K v.q ∧ (v.a = none → v.ac = 0) ∧ v.q.tx.size ≤ K := by
  obtain ⟨hl, hf⟩ := dB rfl h
  match cs, hl with
  | [c0, c1, c2, c3, c4, c5, c6, c7, c8, c9, c10, c11, c12, c13, c14], _ =>
    obtain ⟨_, hh⟩ := dB rfl (hf 1 1 45 _ J J)
    obtain ⟨_, hs⟩ := dB rfl (hf 10 13 48 _ J J)
    obtain ⟨id, e_id, w_id⟩ := bG rfl (hf 0 0 3 _ J J)
    obtain rfl := (List.cons.inj e_id).1
    obtain ⟨sv, e_sv, z_sv⟩ := eI rfl (hh 0 0 9 _ J J)
    obtain rfl := (List.cons.inj e_sv).1
    obtain ⟨mt, e_mt, z_mt⟩ := eI rfl (hh 1 1 9 _ J J)
    obtain rfl := (List.cons.inj e_mt).1
    obtain ⟨lt, e_lt, w_lt⟩ := bG rfl (hh 2 2 3 _ J J)
    obtain rfl := (List.cons.inj e_lt).1
    obtain ⟨xm, cm, lm, e_lm, z_lm, r_lm, o_lm⟩ := ij mC (fun m => m.1.size ≤ K ∧ m.2.size ≤ K) J J J (fun cs' h => su h) (hh 3 3 43 _ J J)
    obtain rfl := (List.cons.inj e_lm).1
    obtain ⟨sh, e_sh, w_sh⟩ := bG rfl (hf 2 5 3 _ J J)
    obtain rfl := (List.cons.inj e_sh).1
    obtain ⟨xs, cs1, ls, e_ls, z_ls, r_ls, o_ls⟩ := ij sC (fun s => s.size ≤ K) J J J (fun cs' h => pq h) (hf 3 6 46 _ J J)
    obtain rfl := (List.cons.inj e_ls).1
    obtain ⟨att, e_att, w_att⟩ := bG rfl (hf 4 7 3 _ J J)
    obtain rfl := (List.cons.inj e_att).1
    obtain ⟨bk, e_bk, z_bk⟩ := eI rfl (hf 5 8 9 _ J J)
    obtain rfl := (List.cons.inj e_bk).1
    obtain ⟨st, e_st, w_st⟩ := bG rfl (hf 6 9 3 _ J J)
    obtain rfl := (List.cons.inj e_st).1
    obtain ⟨nx, e_nx, w_nx⟩ := bG rfl (hf 7 10 3 _ J J)
    obtain rfl := (List.cons.inj e_nx).1
    obtain ⟨xa, ca, la, e_la, z_la, r_la, o_la, q_la⟩ := ki sC (fun s => s.size ≤ K) J J J (fun cs' h => pq h) (hf 8 11 46 _ J J)
    obtain rfl := (List.cons.inj e_la).1
    obtain ⟨dn, e_dn⟩ := pp rfl (hf 9 12 4 _ J J)
    obtain rfl := (List.cons.inj e_dn).1
    obtain ⟨cd, e_cd, w_cd⟩ := bG rfl (hs 0 0 3 _ J J)
    obtain rfl := (List.cons.inj e_cd).1
    obtain ⟨tx, e_tx, z_tx⟩ := eI rfl (hs 1 1 9 _ J J)
    obtain rfl := (List.cons.inj e_tx).1
    exact ⟨⟨⟨id, sv, mt, lt, lm, sh, ls, att, bk, st, nx, la, dn, cd, tx⟩, xm, cm, xs, cs1, xa, ca⟩, rfl, ⟨m7 jV (by decide) r_lm, m7 eC (by decide) r_ls, m7 eC (by decide) r_la⟩, ⟨z_lm, z_ls, z_la, z_sv, z_mt, o_lm⟩, q_la.2, z_tx⟩
theorem wo (h : ja Tryz.prog tab K w (n + 7) 52 cs) : ∃ o : OV, cs = OC o ∧ QOk (fun _ => True) w o.q ∧ SzK K o.q.q ∧ o.tx.size ≤ K := by
  obtain ⟨hl, hf⟩ := dB rfl h
  match cs, hl with
  | [c0, c1, c2, c3, c4, c5, c6, c7, c8, c9, c10, c11, c12, c13, c14, c15, c16, c17, c18, c19, c20, c21, c22], _ =>
    obtain ⟨v, e_v, hq, hz, _⟩ := pr (n := n) (hf 4 4 50 _ J J)
    have e_v' : [c4, c5, c6, c7, c8, c9, c10, c11, c12, c13, c14, c15, c16, c17, c18] = QC v := e_v
    obtain ⟨_, hs⟩ := dB rfl (hf 6 20 48 _ J J)
    obtain ⟨kd, e_kd, w_kd⟩ := bG rfl (hf 0 0 3 _ J J)
    obtain rfl := (List.cons.inj e_kd).1
    obtain ⟨id, e_id, w_id⟩ := bG rfl (hf 1 1 3 _ J J)
    obtain rfl := (List.cons.inj e_id).1
    obtain ⟨on, e_on, w_on⟩ := bG rfl (hf 2 2 3 _ J J)
    obtain rfl := (List.cons.inj e_on).1
    obtain ⟨now, e_now, w_now⟩ := bG rfl (hf 3 3 3 _ J J)
    obtain rfl := (List.cons.inj e_now).1
    obtain ⟨msg, e_msg, z_msg⟩ := eI rfl (hf 5 19 9 _ J J)
    obtain rfl := (List.cons.inj e_msg).1
    obtain ⟨cd, e_cd, w_cd⟩ := bG rfl (hs 0 0 3 _ J J)
    obtain rfl := (List.cons.inj e_cd).1
    obtain ⟨tx, e_tx, z_tx⟩ := eI rfl (hs 1 1 9 _ J J)
    obtain rfl := (List.cons.inj e_tx).1
    obtain ⟨safe, e_safe⟩ := pp rfl (hf 7 22 4 _ J J)
    obtain rfl := (List.cons.inj e_safe).1
    refine ⟨⟨kd, id, on, now, v, msg, cd, tx, safe⟩, ?_, hq, hz, z_tx⟩
    unfold QC at e_v'
    injection e_v' with e1 e_v'
    injection e_v' with e2 e_v'
    injection e_v' with e3 e_v'
    injection e_v' with e4 e_v'
    injection e_v' with e5 e_v'
    injection e_v' with e6 e_v'
    injection e_v' with e7 e_v'
    injection e_v' with e8 e_v'
    injection e_v' with e9 e_v'
    injection e_v' with e10 e_v'
    injection e_v' with e11 e_v'
    injection e_v' with e12 e_v'
    injection e_v' with e13 e_v'
    injection e_v' with e14 e_v'
    injection e_v' with e15 e_v'
    rw [e1, e2, e3, e4, e5, e6, e7, e8, e9, e10, e11, e12, e13, e14, e15]
    rfl
structure BG where
  x : Option Addr
  xc : Nat
  l : List BV
  ra : Int
  rb : Int
  rc : Int
  rk : Int
  tk : Int
  mo : Int
  gn : Int
def GC (b : BG) : List Value := [.slice b.x b.l.length b.xc, .int .i64 b.ra, .int .i64 b.rb, .int .i64 b.rc, .int .i64 b.rk, .int .i64 b.tk, .int .i64 b.mo, .int .i64 b.gn]
theorem yQ (h : ja Tryz.prog tab K w (n + 7) 28 cs) : ∃ b : BG, cs = GC b ∧ Rws (fun _ => True) w 6 bC b.x b.l ∧ b.l.length ≤ K := by
  obtain ⟨hl, hf⟩ := dB rfl h
  match cs, hl with
  | [c0, c1, c2, c3, c4, c5, c6, c7], _ =>
    obtain ⟨_, hr⟩ := dB rfl (hf 1 1 24 _ J J)
    obtain ⟨_, hb⟩ := dB rfl (hf 2 5 26 _ J J)
    obtain ⟨xb, cb, lb, e_lb, z_lb, r_lb, o_lb⟩ := ij bC (fun _ => True) J J J (fun cs' h => m8 h) (hf 0 0 22 _ J J)
    obtain rfl := (List.cons.inj e_lb).1
    obtain ⟨ra, e_ra, w_ra⟩ := bG rfl (hr 0 0 3 _ J J)
    obtain rfl := (List.cons.inj e_ra).1
    obtain ⟨rb, e_rb, w_rb⟩ := bG rfl (hr 1 1 3 _ J J)
    obtain rfl := (List.cons.inj e_rb).1
    obtain ⟨rc, e_rc, w_rc⟩ := bG rfl (hr 2 2 3 _ J J)
    obtain rfl := (List.cons.inj e_rc).1
    obtain ⟨rk, e_rk, w_rk⟩ := bG rfl (hr 3 3 3 _ J J)
    obtain rfl := (List.cons.inj e_rk).1
    obtain ⟨tk, e_tk, w_tk⟩ := bG rfl (hb 0 0 3 _ J J)
    obtain rfl := (List.cons.inj e_tk).1
    obtain ⟨mo, e_mo, w_mo⟩ := bG rfl (hb 1 1 3 _ J J)
    obtain rfl := (List.cons.inj e_mo).1
    obtain ⟨gn, e_gn, w_gn⟩ := bG rfl (hb 2 2 3 _ J J)
    obtain rfl := (List.cons.inj e_gn).1
    exact ⟨⟨xb, cb, lb, ra, rb, rc, rk, tk, mo, gn⟩, rfl, m7 cr (by decide) r_lb, z_lb⟩
structure yR (K : Nat) (w : World) (x : Option Addr) (l : List OV) : Prop where
  len : l.length ≤ K
  rows : 0 < l.length → ∃ b off, x = some ⟨b, off, none⟩ ∧ ∀ j v, l[j]? = some v → w.rangeAt b (off + j * 23) (OC v)
  ok : ∀ o ∈ l, QOk (fun _ => True) w o.q ∧ SzK K o.q.q ∧ o.tx.size ≤ K
theorem zT {v : Value} (h : ja Tryz.prog tab K w (n + 8) 29 [v]) : ∃ x cap, ∃ l : List OV, v = .slice x l.length cap ∧ yR K w x l := by
  obtain ⟨x, cap, l, e, z, r, ok⟩ := ij OC (fun o => QOk (fun _ => True) w o.q ∧ SzK K o.q.q ∧ o.tx.size ≤ K) J J J (fun cs' h => wo h) h
  exact ⟨x, cap, l, (List.cons.inj e).1, z, r, ok⟩
end
end Go.Proofs.YtmdkfbmpenohiaaGreatDoor.Y
namespace Go.Proofs.YtmdkfbmpenohiaaGreatDoor.Y
open Go.RowKit
theorem wS {w : World} {M : List Ent} {i : Nat} {F : Nat → Prop} {p : World → Prop} (hi : dY M i = some (.rep F p)) : ∀ w1, Mem w w1 M → ∀ b, (F b ∨ b < w.heap.size) → b < w1.heap.size ∧ ∀ f ∈ M, ¬ f.mut b := by
  intro w1 hm b hb
  rcases hb with hb | hb
  · exact ⟨(hm.2.get hi).1 b hb, dz hm.2 hi b hb⟩
  · exact ⟨Nat.lt_of_lt_of_le hb hm.1.size, fun f hf => cE hm hb hf⟩
theorem uw {w w1 : World} {F : Nat → Prop} (v : CV) (o : OV) (hC : COk F w1 v) (hQ : QOk (fun _ => True) w o.q) (hb : Below w.heap.size w w1) (hg : MLen w) (hV : VC v.c) (hzq : v.c.qs.length ≤ 703687441775) (hz : ∀ q ∈ v.c.qs, eP q) (han : ∀ q ∈ v.c.qs, q.an.length < 8796093022208) (hsz : eP o.q.q) (hhd : dH o.q.q.hd) (htx : o.tx.size ≤ 4611686018427387900) : Calls Tryz.prog 9 #[.agg #[.slice v.b v.c.bs.length v.bc, .int .i64 v.c.ra, .int .i64 v.c.rb, .int .i64 v.c.rc, .int .i64 v.c.rk, .int .i64 v.c.tk, .int .i64 v.c.mo, .int .i64 v.c.gn, .slice v.x v.qv.length v.xc, .int .i64 v.c.nx], .agg #[.int .i64 o.kd, .int .i64 o.id, .int .i64 o.n, .int .i64 o.now, .int .i64 o.q.q.id, .string o.q.q.sv, .string o.q.q.mt, .int .i64 o.q.q.late, .slice o.q.m o.q.q.ms.length o.q.mc, .int .i64 o.q.q.sh, .slice o.q.s o.q.q.mg.length o.q.sc, .int .i64 o.q.q.att, .string o.q.q.bk, .int .i64 o.q.q.st, .int .i64 o.q.q.nx, .slice o.q.a o.q.q.an.length o.q.ac, .bool o.q.q.dn, .int .i64 o.q.q.cd, .string o.q.q.tx, .string o.msg, .int .i64 o.cd, .string o.tx, .bool o.safe]] w1 fun e w' => (∃ s : SV × (Nat → Prop), ∃ g : Nat → Prop, (s.1.c.c = (aX v.c o.d).1 ∧ s.1.l.map (·.q) = (aX v.c o.d).2.qs) ∧ e = .returned (.tuple ⟨[.agg ⟨CC s.1.c⟩, .agg ⟨RC s.1 (aX v.c o.d).2⟩]⟩) ∧ MemL w1.heap.size w' [.rep s.2 (fun w => StOk s.2 w s.1 (aX v.c o.d).2.ids)] ∧ (∀ f ∈ [Ent.rep s.2 (fun w => StOk s.2 w s.1 (aX v.c o.d).2.ids)], ∀ b, f.mut b → g b) ∧ (∀ f ∈ [Ent.rep s.2 (fun w => StOk s.2 w s.1 (aX v.c o.d).2.ids)], ∀ b, f.foot b → g b ∨ (F b ∨ b < w.heap.size)) ∧ ∀ b, g b → w1.heap.size ≤ b ∧ b < w'.heap.size) ∧ Below w1.heap.size w1 w' := by
  have hQ' : QOk (fun b => F b ∨ b < w.heap.size) w1 o.q := ((hQ.lt).mono fun b hb => .inr hb.2).below hb
  refine (pj (A := fun b => F b ∨ b < w.heap.size) v o w1 (hC.mono fun _ => .inl) hQ' (hg.below hb) hV (by rw [← hC.lenq]; exact hzq) (gI hC hz) han hsz hhd htx).mono fun e w' ⟨s, F1, h1, h2, h3, h4, h5⟩ => ⟨⟨(s, fun b => F1 b ∧ b < w'.heap.size), fun b => w1.heap.size ≤ b ∧ b < w'.heap.size, h2, h3, ⟨⟨fun _ h => h.2, h4.lt, fun w3 w4 hk h => h.agree hk⟩, fun f hf => (by cases hf), trivial⟩, fun f hf b hm => ?_, fun f hf b hm => ?_, fun _ h => h⟩, h5⟩
  · obtain rfl := List.mem_singleton.1 hf
    exact hm.elim
  · obtain rfl := List.mem_singleton.1 hf
    have hm' : F1 b ∧ b < w'.heap.size := hm
    rcases h1 b hm'.1 with h | h
    · exact .inr h
    · exact .inl ⟨h, hm'.2⟩
structure LI (b : BG) (i : Nat) (c : CL) : Prop where
  ok : VC c
  sz : SzM i c
  ra : c.ra = b.ra
  mo : c.mo = b.mo
  gn : c.gn = b.gn
theorem LI.step {b : BG} {i : Nat} {c : CL} (h : LI b i c) (o : OV) (hS : SzK 1048576 o.q.q) : LI b (i + 1) (aX c o.d).1 ∧ ∃ n, Mv c n (aX c o.d).2.qs (aX c o.d).1 := by
  obtain ⟨n, hn, hm⟩ := vW h.ok o.d (by have := hS.ms; show o.q.q.ms.length ≤ _; omega) (by have := hS.mg; show o.q.q.mg.length ≤ _; omega)
  have hp := hm.pol
  have hz := hm.sz h.sz
  refine ⟨⟨hm.ok h.ok, ⟨Nat.le_trans hz.1 (by omega), fun q hq => ?_⟩, hp.1.trans h.ra, hp.2.2.2.2.1.trans h.mo, hp.2.2.2.2.2.1.trans h.gn⟩, n, hm⟩
  obtain ⟨h1, h2, h3⟩ := hz.2 q hq
  exact ⟨h1, h2, by omega⟩
theorem LI.lq {b : BG} {i : Nat} {c : CL} (h : LI b i c) (hi : i ≤ 1000) : c.qs.length ≤ 703687441775 := by
  have := h.sz.1
  omega
theorem LI.zz {b : BG} {i : Nat} {c : CL} (h : LI b i c) (hi : i ≤ 1000) : ∀ q ∈ c.qs, eP q := fun q hq => by
  obtain ⟨h1, h2, h3⟩ := h.sz.2 q hq
  exact ⟨h1, h2, by omega⟩
theorem LI.az {b : BG} {i : Nat} {c : CL} (h : LI b i c) (hi : i ≤ 1000) : ∀ q ∈ c.qs, q.an.length < 8796093022208 := fun q hq => by
  obtain ⟨h1, h2, h3⟩ := h.sz.2 q hq
  omega
def nT (b : BG) : CL × Int := dQ b.l b.ra b.rb b.rc b.rk b.tk b.mo b.gn
theorem LI.new {b : BG} (h : (nT b).2 = 0) : LI b 0 (nT b).1 ∧ (nT b).1.tk = b.tk ∧ (nT b).1.qs = [] ∧ (nT b).1.bs = b.l := by
  obtain ⟨h1, h2⟩ := xz h
  unfold nT
  rw [h1]
  exact ⟨⟨h2, ⟨Nat.zero_le _, fun q hq => by cases hq⟩, rfl, rfl, rfl⟩, rfl, rfl, rfl⟩
theorem Mem.repTo {w0 w : World} {M : List Ent} {F : Nat → Prop} {p p' : World → Prop} (h : Mem w0 w (.rep F p :: M)) (h1 : ∀ w, p w → p' w) (h2 : ∀ w1 w2, (∀ k, F k → w2.heap[k]? = w1.heap[k]?) → p' w1 → p' w2) : Mem w0 w (.rep F p' :: M) := ⟨h.1, ⟨h.2.1.1, h1 _ h.2.1.2.1, h2⟩, h.2.2.1, h.2.2.2⟩
theorem wq (b : BG) (w w1 : World) {M : List Ent} (hm : Mem w w1 M) (hB : Rws (fun _ => True) w 6 bC b.x b.l) (hl : b.l.length ≤ 1048576) : Calls Tryz.prog 5 #[.slice b.x b.l.length b.xc, .agg #[.int .i64 b.ra, .int .i64 b.rb, .int .i64 b.rc, .int .i64 b.rk], .agg #[.int .i64 b.tk, .int .i64 b.mo, .int .i64 b.gn]] w1 fun e w' => ∃ s : CV, ∃ F : Nat → Prop, s.c = (nT b).1 ∧ e = .returned (.tuple ⟨[.agg ⟨CC s⟩, .int .i64 (nT b).2]⟩) ∧ Mem w w' (.rep F (fun w => COk F w s) :: M) := by
  refine (qS (A := fun b => True ∧ b < w.heap.size) b.x b.l b.xc b.ra b.rb b.rc b.rk b.tk b.mo b.gn w1 ((hB.lt).below hm.below) (by omega)).mono fun e w2 ⟨v', h1, _, h3, h4⟩ => ⟨v', _, h1, h3, Mem.out hm (A := fun b => True ∧ b < w.heap.size) (fun b hb f hf => cE hm hb.2 hf) h4.2 (fun F w => COk F w v') h4.1.lt (fun F w3 w4 hk h => h.agree hk)⟩
end Go.Proofs.YtmdkfbmpenohiaaGreatDoor.Y
