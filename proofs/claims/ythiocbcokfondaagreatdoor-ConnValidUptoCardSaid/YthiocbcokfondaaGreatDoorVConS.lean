/- A connection, opened, of bounded bulk. -/
import Derived.Test.YthiocbcokfondaaGreatDoorVBunC14
import Derived.Test.YthiocbcokfondaaGreatDoorVBunO
namespace Go.Proofs.YthiocbcokfondaaGreatDoor.Y
open Go.RowKit
theorem k9 {K : Nat} (hK : 1 ≤ K) : ∀ l : List ByteArray, (∀ s ∈ l, s.size ≤ K) → ce l ≤ (l.length * K : Nat)
  | [], _ => by simp [ce]
  | s :: l, h => by
    have h1 := k9 hK l (fun x hx => h x (List.mem_cons_of_mem _ hx))
    have h2 := h s (List.mem_cons_self ..)
    have h3 : bE s ≤ K := by unfold bE; split <;> omega
    rw [ce, List.length_cons, Nat.succ_mul]
    omega
theorem lb {B : Nat} : ∀ l : List KR, (∀ k ∈ l, ce k.ib ≤ (B : Int)) → cL l ≤ (l.length * B : Nat)
  | [], _ => by simp [cL]
  | k :: l, h => by
    have h1 := lb l (fun x hx => h x (List.mem_cons_of_mem _ hx))
    have h2 := h k (List.mem_cons_self ..)
    rw [cL, List.length_cons, Nat.succ_mul]
    omega
section
variable {K : Nat} {w : World} {n : Nat} {cs : List Value}
theorem tP (h : jD Tryz.prog tab K w (n + 1) 9 cs) : ∃ s : ByteArray, cs = sC s ∧ s.size ≤ K := by
  obtain ⟨s, e, z⟩ := fU rfl h
  exact ⟨s, e, z⟩
theorem tQ (h : jD Tryz.prog tab K w (n + 1) 3 cs) : ∃ s : Int, cs = iC s ∧ True := by
  obtain ⟨s, e, z⟩ := bx rfl h
  exact ⟨s, e, trivial⟩
theorem rB (h : jD Tryz.prog tab K w (n + 2) 93 cs) : ∃ m : ByteArray × ByteArray, cs = mC m ∧ m.1.size ≤ K ∧ m.2.size ≤ K := by
  obtain ⟨hl, hf⟩ := dN rfl h
  match cs, hl with
  | [c0, c1], _ =>
    obtain ⟨a, e_a, z_a⟩ := fU rfl (hf 0 0 9 _ J J)
    obtain rfl := (List.cons.inj e_a).1
    obtain ⟨b, e_b, z_b⟩ := fU rfl (hf 1 1 9 _ J J)
    obtain rfl := (List.cons.inj e_b).1
    exact ⟨(a, b), rfl, z_a, z_b⟩
theorem oq (h : jD Tryz.prog tab K w (n + 2) 65 cs) : ∃ f : cO, cs = fC f ∧ f.data.size ≤ K := by
  obtain ⟨hl, hf⟩ := dN rfl h
  match cs, hl with
  | [c0, c1, c2, c3], _ =>
    obtain ⟨a, e_a, w_a⟩ := bx rfl (hf 0 0 3 _ J J)
    obtain rfl := (List.cons.inj e_a).1
    obtain ⟨b, e_b, w_b⟩ := bx rfl (hf 1 1 3 _ J J)
    obtain rfl := (List.cons.inj e_b).1
    obtain ⟨c, e_c, w_c⟩ := bx rfl (hf 2 2 3 _ J J)
    obtain rfl := (List.cons.inj e_c).1
    obtain ⟨d, e_d, z_d⟩ := fU rfl (hf 3 3 9 _ J J)
    obtain rfl := (List.cons.inj e_d).1
    exact ⟨⟨a, b, c, d⟩, rfl, z_d⟩
structure yY (K : Nat) (k : KR) : Prop where
  tx : k.st.text.size ≤ K
  sv : k.sv.size ≤ K
  mt : k.mt.size ≤ K
  ms : k.ms.length ≤ K ∧ ∀ m ∈ k.ms, m.1.size ≤ K ∧ m.2.size ≤ K
  ib : k.ib.length ≤ K ∧ ∀ s ∈ k.ib, s.size ≤ K
  ob : k.ob.length ≤ K ∧ ∀ f ∈ k.ob, f.data.size ≤ K
theorem rC (h : jD Tryz.prog tab K w (n + 6) 39 cs) : ∃ v : KV, cs = KC v ∧ KOk (fun _ => True) w v ∧ yY K v.k := by
  obtain ⟨hl, hf⟩ := dN rfl h
  match cs, hl with
  | [c0, c1, c2, c3, c4, c5, c6, c7, c8, c9, c10, c11, c12, c13, c14, c15, c16, c17, c18, c19, c20, c21], _ =>
    obtain ⟨_, hs⟩ := dN rfl (hf 0 0 33 _ J J)
    obtain ⟨_, ht⟩ := dN rfl (hs 8 8 31 _ J J)
    obtain ⟨_, hw1⟩ := dN rfl (hs 9 10 23 _ J J)
    obtain ⟨_, hw2⟩ := dN rfl (hs 10 13 23 _ J J)
    obtain ⟨_, hh⟩ := dN rfl (hf 1 16 36 _ J J)
    obtain ⟨id, e_id, w_id⟩ := bx rfl (hs 0 0 3 _ J J)
    obtain rfl := (List.cons.inj e_id).1
    obtain ⟨sd, e_sd, w_sd⟩ := bx rfl (hs 1 1 3 _ J J)
    obtain rfl := (List.cons.inj e_sd).1
    obtain ⟨sh, e_sh, w_sh⟩ := bx rfl (hs 2 2 3 _ J J)
    obtain rfl := (List.cons.inj e_sh).1
    obtain ⟨sn, e_sn, w_sn⟩ := bx rfl (hs 3 3 3 _ J J)
    obtain rfl := (List.cons.inj e_sn).1
    obtain ⟨gt, e_gt, w_gt⟩ := bx rfl (hs 4 4 3 _ J J)
    obtain rfl := (List.cons.inj e_gt).1
    obtain ⟨se, e_se⟩ := i1 rfl (hs 5 5 4 _ J J)
    obtain rfl := (List.cons.inj e_se).1
    obtain ⟨ge, e_ge⟩ := i1 rfl (hs 6 6 4 _ J J)
    obtain rfl := (List.cons.inj e_ge).1
    obtain ⟨dn, e_dn⟩ := i1 rfl (hs 7 7 4 _ J J)
    obtain rfl := (List.cons.inj e_dn).1
    obtain ⟨cd, e_cd, w_cd⟩ := bx rfl (ht 0 0 3 _ J J)
    obtain rfl := (List.cons.inj e_cd).1
    obtain ⟨tx, e_tx, z_tx⟩ := fU rfl (ht 1 1 9 _ J J)
    obtain rfl := (List.cons.inj e_tx).1
    obtain ⟨wa, e_wa, w_wa⟩ := bx rfl (hw1 0 0 3 _ J J)
    obtain rfl := (List.cons.inj e_wa).1
    obtain ⟨wb, e_wb, w_wb⟩ := bx rfl (hw1 1 1 3 _ J J)
    obtain rfl := (List.cons.inj e_wb).1
    obtain ⟨wc, e_wc, w_wc⟩ := bx rfl (hw1 2 2 3 _ J J)
    obtain rfl := (List.cons.inj e_wc).1
    obtain ⟨ra, e_ra, w_ra⟩ := bx rfl (hw2 0 0 3 _ J J)
    obtain rfl := (List.cons.inj e_ra).1
    obtain ⟨rb, e_rb, w_rb⟩ := bx rfl (hw2 1 1 3 _ J J)
    obtain rfl := (List.cons.inj e_rb).1
    obtain ⟨rc, e_rc, w_rc⟩ := bx rfl (hw2 2 2 3 _ J J)
    obtain rfl := (List.cons.inj e_rc).1
    obtain ⟨sv, e_sv, z_sv⟩ := fU rfl (hh 0 0 9 _ J J)
    obtain rfl := (List.cons.inj e_sv).1
    obtain ⟨mt, e_mt, z_mt⟩ := fU rfl (hh 1 1 9 _ J J)
    obtain rfl := (List.cons.inj e_mt).1
    obtain ⟨lt, e_lt, w_lt⟩ := bx rfl (hh 2 2 3 _ J J)
    obtain rfl := (List.cons.inj e_lt).1
    obtain ⟨xm, cm, lm, e_lm, z_lm, r_lm, o_lm⟩ := fG mC (fun m => m.1.size ≤ K ∧ m.2.size ≤ K) J J J (fun cs' h => rB h) (hh 3 3 34 _ J J)
    obtain rfl := (List.cons.inj e_lm).1
    obtain ⟨xi, ci, li, e_li, z_li, r_li, o_li⟩ := fG sC (fun s => s.size ≤ K) J J J (fun cs' h => tP h) (hf 2 20 37 _ J J)
    obtain rfl := (List.cons.inj e_li).1
    obtain ⟨xo, co, lo, e_lo, z_lo, r_lo, o_lo⟩ := fG fC (fun f => f.data.size ≤ K) J J J (fun cs' h => oq h) (hf 3 21 25 _ J J)
    obtain rfl := (List.cons.inj e_lo).1
    exact ⟨⟨⟨⟨id, sd, sh, sn, gt, se, ge, dn, cd, tx, ⟨wa, wb, wc⟩, ⟨ra, rb, rc⟩⟩, sv, mt, lt, lm, li, lo⟩, xm, cm, xi, ci, xo, co⟩, rfl, ⟨lP go (by decide) r_lm, lP iq (by decide) r_li, lP en (by decide) r_lo⟩, ⟨z_tx, z_sv, z_mt, ⟨z_lm, o_lm⟩, ⟨z_li, o_li⟩, ⟨z_lo, o_lo⟩⟩⟩
structure ConK (K : Nat) (w : World) (v : NV) : Prop where
  ok : NOk (fun _ => True) w v
  ks : v.kv.length ≤ K
  sz : ∀ u ∈ v.kv, yY K u.k
  ou : v.c.ou.length ≤ K ∧ ∀ f ∈ v.c.ou, f.data.size ≤ K
  pg : v.c.pg.length ≤ K
theorem xn (h : jD Tryz.prog tab K w (n + 8) 28 cs) : ∃ v : NV, cs = NC v ∧ ConK K w v := by
  obtain ⟨hl, hf⟩ := dN rfl h
  match cs, hl with
  | [c0, c1, c2, c3, c4, c5, c6, c7, c8, c9, c10, c11, c12, c13, c14], _ =>
    obtain ⟨_, hw1⟩ := dN rfl (hf 5 5 23 _ J J)
    obtain ⟨_, hw2⟩ := dN rfl (hf 6 8 23 _ J J)
    obtain ⟨sd, e_sd, w_sd⟩ := bx rfl (hf 0 0 3 _ J J)
    obtain rfl := (List.cons.inj e_sd).1
    obtain ⟨nx, e_nx, w_nx⟩ := bx rfl (hf 1 1 3 _ J J)
    obtain rfl := (List.cons.inj e_nx).1
    obtain ⟨la, e_la, w_la⟩ := bx rfl (hf 2 2 3 _ J J)
    obtain rfl := (List.cons.inj e_la).1
    obtain ⟨aw, e_aw, w_aw⟩ := bx rfl (hf 3 3 3 _ J J)
    obtain rfl := (List.cons.inj e_aw).1
    obtain ⟨sz, e_sz, w_sz⟩ := bx rfl (hf 4 4 3 _ J J)
    obtain rfl := (List.cons.inj e_sz).1
    obtain ⟨wa, e_wa, w_wa⟩ := bx rfl (hw1 0 0 3 _ J J)
    obtain rfl := (List.cons.inj e_wa).1
    obtain ⟨wb, e_wb, w_wb⟩ := bx rfl (hw1 1 1 3 _ J J)
    obtain rfl := (List.cons.inj e_wb).1
    obtain ⟨wc, e_wc, w_wc⟩ := bx rfl (hw1 2 2 3 _ J J)
    obtain rfl := (List.cons.inj e_wc).1
    obtain ⟨ra, e_ra, w_ra⟩ := bx rfl (hw2 0 0 3 _ J J)
    obtain rfl := (List.cons.inj e_ra).1
    obtain ⟨rb, e_rb, w_rb⟩ := bx rfl (hw2 1 1 3 _ J J)
    obtain rfl := (List.cons.inj e_rb).1
    obtain ⟨rc, e_rc, w_rc⟩ := bx rfl (hw2 2 2 3 _ J J)
    obtain rfl := (List.cons.inj e_rc).1
    obtain ⟨xk, ck, lk, e_lk, z_lk, r_lk, o_lk⟩ := fG KC (fun v => KOk (fun _ => True) w v ∧ yY K v.k) J J J (fun cs' h => rC h) (hf 7 11 24 _ J J)
    obtain rfl := (List.cons.inj e_lk).1
    obtain ⟨xo, co, lo, e_lo, z_lo, r_lo, o_lo⟩ := fG fC (fun f => f.data.size ≤ K) J J J (fun cs' h => oq h) (hf 8 12 25 _ J J)
    obtain rfl := (List.cons.inj e_lo).1
    obtain ⟨xp, cp, lp, e_lp, z_lp, r_lp, o_lp⟩ := fG iC (fun _ => True) J J J (fun cs' h => tQ h) (hf 9 13 26 _ J J)
    obtain rfl := (List.cons.inj e_lp).1
    obtain ⟨cl, e_cl⟩ := i1 rfl (hf 10 14 4 _ J J)
    obtain rfl := (List.cons.inj e_cl).1
    exact ⟨⟨⟨sd, nx, la, aw, sz, ⟨wa, wb, wc⟩, ⟨ra, rb, rc⟩, lk.map (·.k), lo, lp, cl⟩, xk, ck, lk, xo, co, xp, cp⟩, rfl, ⟨⟨lP bN (by decide) r_lk, lP en (by decide) r_lo, lP fP (by decide) r_lp, rfl, fun q hq => (o_lk q hq).1⟩, z_lk, fun q hq => (o_lk q hq).2, ⟨z_lo, o_lo⟩, z_lp⟩⟩
end
theorem ConK.szn {w : World} {v : NV} (h : ConK 1048576 w v) : pS v := by
  have h1 := h.ks
  have h2 := h.ou.1
  have h3 := h.pg
  exact ⟨by omega, by omega, by omega, fun u hu => by
    have a := (h.sz u hu).ms.1
    have b := (h.sz u hu).ib.1
    have c := (h.sz u hu).ob.1
    exact ⟨by omega, by omega, by omega⟩⟩
theorem ConK.gdn {w : World} {v : NV} (h : ConK 1048576 w v) : vf v := by
  have h2 := h.ou.1
  exact ⟨fun u hu => by have := (h.sz u hu).tx; omega, fun u hu f hf => by have := (h.sz u hu).ob.2 f hf; omega, fun u hu => by have := (h.sz u hu).ob.1; omega, by omega⟩
set_option maxRecDepth 100000 in
theorem ConK.szv {w : World} {v : NV} (h : ConK 1048576 w v) : xj v := by
  have hu0 : ∀ u ∈ v.kv, ce u.k.ib ≤ ((1099511627776 : Nat) : Int) := fun u hu => by
    have h1 := k9 (K := 1048576) (by decide) u.k.ib (h.sz u hu).ib.2
    have h2 := (h.sz u hu).ib.1
    omega
  refine ⟨fun u hu => by have := hu0 u hu; omega, ?_, fun u hu => ⟨?_, ?_, fun m hm => ?_⟩, fun f hf => by have := h.ou.2 f hf; omega⟩
  · have h1 := lb (B := 1099511627776) v.c.ks (fun k hk => by
      rw [h.ok.eq] at hk
      obtain ⟨u, hu, rfl⟩ := List.mem_map.1 hk
      exact hu0 u hu)
    have h2 := h.ks
    have h3 := h.ok.lenk
    omega
  · have := (h.sz u hu).sv
    show u.k.sv.size < _
    omega
  · have := (h.sz u hu).mt
    show u.k.mt.size < _
    omega
  · have := (h.sz u hu).ms.2 m hm
    omega
end Go.Proofs.YthiocbcokfondaaGreatDoor.Y
