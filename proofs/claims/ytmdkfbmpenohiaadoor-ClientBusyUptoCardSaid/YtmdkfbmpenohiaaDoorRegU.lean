/- Drawn regions with stores into slices of the call's own. -/
import Derived.Test.YtmdkfbmpenohiaaDoorRegT
namespace Go.Proofs.YtmdkfbmpenohiaaDoor.Y
open Go.RowKit
section
variable {P : Program} {T : Tab} {l0 rest : List Oper} {Q : Exit → Act → World → Prop} {n : Nat} {w0 : World} {S : Sts} {M M' M2 : List Ent} {o : Oper}
theorem ostore_run (hT : TOK P T) (i : Nat) {t : TypeId} {td : TD} {x y : Operand} {g off cap size k : Nat} {e : TypeId} {v : Value} {xs xs' vs : List Value} (h1 : o.op = .store t x y) (_hg : o.guard = none) (h2 : ev S x = some ([], .pointer (some ⟨g, off, none⟩))) (h3 : ev S y = some ([], v))
    (hm : nth M i = some (.own (some ⟨g, 0, none⟩) cap e size k xs)) (h4 : cellsO v = some vs) (h5 : lk t T = some td) (h6 : Nat.beq vs.length td.size = true) (h7 : oneAll vs = true) (h8 : spl xs off vs = some xs') (h9 : setM M i (.own (some ⟨g, 0, none⟩) cap e size k xs') = some M') (_hd : o.dst = none) {a : Act} {w : World} (hS : Sl n a S) (hM : Mem w0 w M) : ∃ w', (execOp a.eval o).run P w = .ok .skip w' ∧ Mem w0 w' M' := by
  have hok : w.ownsRow w0.heap.size e size (.slice (some ⟨g, 0, none⟩) k cap) k xs := hM.2.get hm
  obtain ⟨hlen, hrest⟩ := hok
  rcases hrest with ⟨hv, _⟩ | ⟨g', cap', cur, hv, hB, hgw, hkc, hcm, hcs, htake⟩
  · simp at hv
  obtain ⟨rfl, rfl⟩ : g = g' ∧ cap = cap' := by simp only [Value.slice.injEq, Option.some.injEq, Addr.mk.injEq] at hv; exact ⟨hv.1.1, hv.2.2⟩
  obtain ⟨e8, hl8⟩ := spl_eq h8
  have hkl : k * size ≤ cur.toList.length := by rw [Array.length_toList, hcs]; exact Nat.mul_le_mul_right _ hkc
  have hle : off + vs.length ≤ k * size := by rw [← hlen]; exact hl8
  have hspl := spl_of cur.toList off vs (Nat.le_trans hle hkl)
  have hrun : (execOp a.eval o).run P w = .ok .skip (w.setRow g ⟨cur.toList.take off ++ vs ++ cur.toList.drop (off + vs.length)⟩) := by
    unfold execOp
    simp only [h1, ev_spec hS h2 rfl, ev_spec hS h3 rfl, Sem.run_bind, run_storeAt hT (show Bk w g e ⟨cur.toList⟩ from hgw) h4 h5 h6 h7 hspl]
    rfl
  have hxs' : xs'.length = k * size := by rw [← hlen, e8]; simp; omega
  refine ⟨_, hrun, hM.set (e' := .own (some ⟨g, 0, none⟩) cap e size k xs') hm h9 rfl rfl rfl (by simp [World.setRow]) (fun q _ hq => setRow_other w g q _ hq) ⟨hxs', .inr ⟨g, cap, _, rfl, hB, setRow_heap w g cur _ e (0, 0) hgw, hkc, hcm, ?_, ?_⟩⟩ (fun _ hk => .inl hk) (fun _ hk => .inl hk)⟩
  · have hle2 : off + vs.length ≤ cur.toList.length := Nat.le_trans hle hkl
    have : (cur.toList.take off ++ vs ++ cur.toList.drop (off + vs.length)).length = cur.toList.length := by rw [List.length_append, List.length_append, List.length_take, List.length_drop]; omega
    simpa [hcs] using this
  · rw [e8, ← htake]
    show (cur.toList.take off ++ vs ++ cur.toList.drop (off + vs.length)).take (k * size) = _
    generalize k * size = m at *
    have hle2 : off + vs.length ≤ cur.toList.length := Nat.le_trans hle hkl
    have h1 : (cur.toList.take off ++ vs).length = off + vs.length := by rw [List.length_append, List.length_take]; omega
    rw [List.take_append, h1, List.take_of_length_le (by rw [h1]; exact hle), List.take_take, Nat.min_eq_left (by omega), List.drop_take]
theorem st_ostore (hT : TOK P T) (i : Nat) {t : TypeId} {td : TD} {x y : Operand} {g off cap size k : Nat} {e : TypeId} {v : Value} {xs xs' vs : List Value} (h1 : o.op = .store t x y) (hg : o.guard = none) (h2 : ev S x = some ([], .pointer (some ⟨g, off, none⟩))) (h3 : ev S y = some ([], v))
    (hm : nth M i = some (.own (some ⟨g, 0, none⟩) cap e size k xs)) (h4 : cellsO v = some vs) (h5 : lk t T = some td) (h6 : Nat.beq vs.length td.size = true) (h7 : oneAll vs = true) (h8 : spl xs off vs = some xs') (h9 : setM M i (.own (some ⟨g, 0, none⟩) cap e size k xs') = some M2) (hd : o.dst = none)
    (hM' : ∀ w, Mem w0 w M2 → Mem w0 w M') (h : ST P l0 Q rest n w0 M' S M2) : ST P l0 Q (o :: rest) n w0 M' S M := by
  refine ⟨fun a w hS hM => ?_⟩
  obtain ⟨w', hrun, hM2⟩ := ostore_run hT i h1 hg h2 h3 hm h4 h5 h6 h7 h8 h9 hd hS hM
  refine wpT_act (by unfold Region.wanted; rw [hg]) (by rw [h1]; rfl) (by rw [h1]; rfl) fun K hK => ?_
  unfold Oper.wp
  rw [hrun]
  simp only [Oper.upon]
  refine hK _ _ ⟨hM' _ hM2, h.run _ _ ?_ hM2⟩
  first | exact hS | (rw [hd]; exact hS)
end
end Go.Proofs.YtmdkfbmpenohiaaDoor.Y
