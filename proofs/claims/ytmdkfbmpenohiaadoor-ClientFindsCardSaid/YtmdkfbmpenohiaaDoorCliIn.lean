/- Clients, opened. -/
import Derived.Test.YtmdkfbmpenohiaaDoorBunF
import Derived.Test.YtmdkfbmpenohiaaDoorOpenE
namespace Go.Proofs.YtmdkfbmpenohiaaDoor.Y
open Go.RowKit
section
variable {B : Bool} {w : World} {n : Nat} {cs : List Value}
theorem rws_in {α : Type} {f : α → List Value} {sz : Nat} {x : Option Addr} {l : List α} (hf : ∀ a, (f a).length = sz) (hp : 0 < sz) (h : 0 < l.length → ∃ b off, x = some ⟨b, off, none⟩ ∧ ∀ j v, l[j]? = some v → w.rangeAt b (off + j * sz) (f v)) : Rws (fun _ => True) w sz f x l := fun h0 => by
  obtain ⟨b, off, h1, h2⟩ := h h0
  refine ⟨b, off, h1, trivial, ?_, h2⟩
  have h3 := h2 0 _ (List.getElem?_eq_getElem h0)
  have h4 : 0 < (f l[0]).length := by rw [hf]; exact hp
  exact cell_blk (h3 0 _ (List.getElem?_eq_getElem h4))
theorem str_row (h : okE Tryd.prog tab B w (n + 1) 9 cs) : ∃ s : ByteArray, cs = sC s ∧ True := by
  obtain ⟨s, e, _⟩ := okE_str rfl h
  exact ⟨s, e, trivial⟩
theorem meta_row (h : okE Tryd.prog tab B w (n + 2) 98 cs) : ∃ m : ByteArray × ByteArray, cs = mC m ∧ True := by
  obtain ⟨hl, hf⟩ := okE_row rfl h
  match cs, hl with
  | [c0, c1], _ =>
    obtain ⟨a, e_a, _⟩ := okE_str rfl (hf 0 0 9 _ rfl rfl)
    obtain rfl := (List.cons.inj e_a).1
    obtain ⟨b, e_b, _⟩ := okE_str rfl (hf 1 1 9 _ rfl rfl)
    obtain rfl := (List.cons.inj e_b).1
    exact ⟨(a, b), rfl, trivial⟩
theorem back_row (h : okE Tryd.prog tab B w (n + 2) 66 cs) : ∃ b : BV, cs = bC b ∧ True := by
  obtain ⟨hl, hf⟩ := okE_row rfl h
  match cs, hl with
  | [c0, c1, c2, c3, c4, c5], _ =>
    obtain ⟨a, e_a, _⟩ := okE_str rfl (hf 0 0 9 _ rfl rfl)
    obtain rfl := (List.cons.inj e_a).1
    obtain ⟨b, e_b, _⟩ := okE_int rfl (hf 1 1 3 _ rfl rfl)
    obtain rfl := (List.cons.inj e_b).1
    obtain ⟨c, e_c, _⟩ := okE_int rfl (hf 2 2 3 _ rfl rfl)
    obtain rfl := (List.cons.inj e_c).1
    obtain ⟨d, e_d, _⟩ := okE_int rfl (hf 3 3 3 _ rfl rfl)
    obtain rfl := (List.cons.inj e_d).1
    obtain ⟨e, e_e, _⟩ := okE_int rfl (hf 4 4 3 _ rfl rfl)
    obtain rfl := (List.cons.inj e_e).1
    obtain ⟨g, e_g, _⟩ := okE_int rfl (hf 5 5 3 _ rfl rfl)
    obtain rfl := (List.cons.inj e_g).1
    exact ⟨⟨a, b, c, d, e, g⟩, rfl, trivial⟩
theorem req_row (h : okE Tryd.prog tab B w (n + 6) 37 cs) : ∃ v : QV, cs = QC v ∧ QOk (fun _ => True) w v ∧ (B = true → SzQ v.q) := by
  obtain ⟨hl, hf⟩ := okE_row rfl h
  match cs, hl with
  | [c0, c1, c2, c3, c4, c5, c6, c7, c8, c9, c10, c11, c12, c13, c14], _ =>
    obtain ⟨_, hh⟩ := okE_row rfl (hf 1 1 32 _ rfl rfl)
    obtain ⟨_, hs⟩ := okE_row rfl (hf 10 13 35 _ rfl rfl)
    obtain ⟨id, e_id, _⟩ := okE_int rfl (hf 0 0 3 _ rfl rfl)
    obtain rfl := (List.cons.inj e_id).1
    obtain ⟨sv, e_sv, _⟩ := okE_str rfl (hh 0 0 9 _ rfl rfl)
    obtain rfl := (List.cons.inj e_sv).1
    obtain ⟨mt, e_mt, _⟩ := okE_str rfl (hh 1 1 9 _ rfl rfl)
    obtain rfl := (List.cons.inj e_mt).1
    obtain ⟨lt, e_lt, _⟩ := okE_int rfl (hh 2 2 3 _ rfl rfl)
    obtain rfl := (List.cons.inj e_lt).1
    obtain ⟨xm, cm, lm, e_lm, _, z_lm, r_lm, o_lm⟩ := okE_rows mC (fun _ => True) rfl rfl rfl (fun cs' h => meta_row h) (hh 3 3 30 _ rfl rfl)
    obtain rfl := (List.cons.inj e_lm).1
    obtain ⟨sh, e_sh, _⟩ := okE_int rfl (hf 2 5 3 _ rfl rfl)
    obtain rfl := (List.cons.inj e_sh).1
    obtain ⟨xs, cs1, ls, e_ls, _, z_ls, r_ls, o_ls⟩ := okE_rows sC (fun _ => True) rfl rfl rfl (fun cs' h => str_row h) (hf 3 6 33 _ rfl rfl)
    obtain rfl := (List.cons.inj e_ls).1
    obtain ⟨att, e_att, _⟩ := okE_int rfl (hf 4 7 3 _ rfl rfl)
    obtain rfl := (List.cons.inj e_att).1
    obtain ⟨bk, e_bk, _⟩ := okE_str rfl (hf 5 8 9 _ rfl rfl)
    obtain rfl := (List.cons.inj e_bk).1
    obtain ⟨st, e_st, _⟩ := okE_int rfl (hf 6 9 3 _ rfl rfl)
    obtain rfl := (List.cons.inj e_st).1
    obtain ⟨nx, e_nx, _⟩ := okE_int rfl (hf 7 10 3 _ rfl rfl)
    obtain rfl := (List.cons.inj e_nx).1
    obtain ⟨xa, ca, la, e_la, _, z_la, r_la, o_la⟩ := okE_rows sC (fun _ => True) rfl rfl rfl (fun cs' h => str_row h) (hf 8 11 33 _ rfl rfl)
    obtain rfl := (List.cons.inj e_la).1
    obtain ⟨dn, e_dn⟩ := okE_bool rfl (hf 9 12 4 _ rfl rfl)
    obtain rfl := (List.cons.inj e_dn).1
    obtain ⟨cd, e_cd, _⟩ := okE_int rfl (hs 0 0 3 _ rfl rfl)
    obtain rfl := (List.cons.inj e_cd).1
    obtain ⟨tx, e_tx, _⟩ := okE_str rfl (hs 1 1 9 _ rfl rfl)
    obtain rfl := (List.cons.inj e_tx).1
    refine ⟨⟨⟨id, sv, mt, lt, lm, sh, ls, att, bk, st, nx, la, dn, cd, tx⟩, xm, cm, xs, cs1, xa, ca⟩, rfl, ⟨rws_in mC_len (by decide) r_lm, rws_in sC_len (by decide) r_ls, rws_in sC_len (by decide) r_la⟩, fun hb => ?_⟩
    have z1 := z_lm hb
    have z2 := z_ls hb
    have z3 := z_la hb
    rw [show Tryd.prog.bytesOf 98 = 32 by kernel_rfl] at z1
    rw [show Tryd.prog.bytesOf 9 = 16 by kernel_rfl] at z2 z3
    exact ⟨by dsimp only; omega, by dsimp only; omega, by dsimp only; omega⟩
theorem cli_row (h : okE Tryd.prog tab B w (n + 9) 29 cs) : ∃ v : CV, cs = CC v ∧ COk (fun _ => True) w v ∧ (B = true → v.qv.length ≤ 703687441776 ∧ v.c.bs.length ≤ 2513169434916 ∧ ∀ u ∈ v.qv, SzQ u.q) := by
  obtain ⟨hl, hf⟩ := okE_row rfl h
  match cs, hl with
  | [c0, c1, c2, c3, c4, c5, c6, c7, c8, c9], _ =>
    obtain ⟨_, hr⟩ := okE_row rfl (hf 1 1 24 _ rfl rfl)
    obtain ⟨_, hb⟩ := okE_row rfl (hf 2 5 26 _ rfl rfl)
    obtain ⟨xb, cb, lb, e_lb, _, z_lb, r_lb, o_lb⟩ := okE_rows bC (fun _ => True) rfl rfl rfl (fun cs' h => back_row h) (hf 0 0 22 _ rfl rfl)
    obtain rfl := (List.cons.inj e_lb).1
    obtain ⟨ra, e_ra, _⟩ := okE_int rfl (hr 0 0 3 _ rfl rfl)
    obtain rfl := (List.cons.inj e_ra).1
    obtain ⟨rb, e_rb, _⟩ := okE_int rfl (hr 1 1 3 _ rfl rfl)
    obtain rfl := (List.cons.inj e_rb).1
    obtain ⟨rc, e_rc, _⟩ := okE_int rfl (hr 2 2 3 _ rfl rfl)
    obtain rfl := (List.cons.inj e_rc).1
    obtain ⟨rk, e_rk, _⟩ := okE_int rfl (hr 3 3 3 _ rfl rfl)
    obtain rfl := (List.cons.inj e_rk).1
    obtain ⟨tk, e_tk, _⟩ := okE_int rfl (hb 0 0 3 _ rfl rfl)
    obtain rfl := (List.cons.inj e_tk).1
    obtain ⟨mo, e_mo, _⟩ := okE_int rfl (hb 1 1 3 _ rfl rfl)
    obtain rfl := (List.cons.inj e_mo).1
    obtain ⟨gn, e_gn, _⟩ := okE_int rfl (hb 2 2 3 _ rfl rfl)
    obtain rfl := (List.cons.inj e_gn).1
    obtain ⟨xq, cq, lq, e_lq, _, z_lq, r_lq, o_lq⟩ := okE_rows QC (fun v => QOk (fun _ => True) w v ∧ (B = true → SzQ v.q)) rfl rfl rfl (fun cs' h => req_row h) (hf 3 8 27 _ rfl rfl)
    obtain rfl := (List.cons.inj e_lq).1
    obtain ⟨nx, e_nx, _⟩ := okE_int rfl (hf 4 9 3 _ rfl rfl)
    obtain rfl := (List.cons.inj e_nx).1
    refine ⟨⟨⟨lb, ra, rb, rc, rk, tk, mo, gn, lq.map (·.q), nx⟩, xb, cb, xq, cq, lq⟩, rfl, ⟨rws_in bC_len (by decide) r_lb, rws_in QC_len (by decide) r_lq, rfl, fun q hq => (o_lq q hq).1⟩, fun hB => ?_⟩
    have z1 := z_lb hB
    have z2 := z_lq hB
    rw [show Tryd.prog.bytesOf 66 = 56 by kernel_rfl] at z1
    rw [show Tryd.prog.bytesOf 37 = 200 by kernel_rfl] at z2
    exact ⟨by dsimp only; omega, by dsimp only; omega, fun u hu => (o_lq u hu).2 hB⟩
end
end Go.Proofs.YtmdkfbmpenohiaaDoor.Y
