/- Drawn regions with a store that not every order puts last: walked in the order of the text, on what the store leaves alone. -/
import Derived.Test.YtmdkfbmpenohiaaDoorRep
namespace Go.Proofs.YtmdkfbmpenohiaaDoor.Y
open Go.RowKit
/-- operations that answer alike wherever the named memory stands. -/
def kfY : Op → RK
  | .load _ _ => ⟨true, true⟩
  | .convert _ _ _ => ⟨true, true⟩
  | .nilCheck _ => ⟨true, true⟩
  | o => kf0 o
structure ST (P : Program) (l0 : List Oper) (Q : Exit → Act → World → Prop) (l : List Oper) (n : Nat) (w0 : World) (M' : List Ent) (S : Sts) (M : List Ent) : Prop where
  run : ∀ a w, Sl n a S → Mem w0 w M → wpT P l0.toArray (fun w' => Mem w0 w' M') kfY (Q .normal) l a w
section
variable {P : Program} {T : Tab} {l0 rest : List Oper} {Q : Exit → Act → World → Prop} {n : Nat} {w0 : World} {S : Sts} {M M' M2 : List Ent} {L : Cd} {o : Oper} {d : Nat}
theorem st_nil (h : SQ Q .normal n w0 S M) : ST P l0 Q [] n w0 M' S M := ⟨fun a w hS hM => wpT_nil (h.run a w hS hM)⟩
theorem st_v {v : Value} (hg : gd l0 S o.guard = some L) (hk : (kfY o.op).pure = true) (hv : VO P w0 S M' L o v) (hd : o.dst = some d) (hn : Nat.blt d n = true) (h : ST P l0 Q rest n w0 M' ((d, L, v) :: S) M) : ST P l0 Q (o :: rest) n w0 M' S M := by
  have hdn : d < n := Nat.le_of_ble_eq_true hn
  refine ⟨fun a w hS hM => ?_⟩
  have hw := gd_spec hS hg
  cases hL : holdsC L with
  | true =>
    refine wpT_pure (by rw [hw, hL]) hk v (fun _ hM' => hv n a _ hS hM' hL) fun K hK => hK _ _ (h.run _ _ ?_ hM)
    rw [hd]; exact hS.put hdn (by simp [hL])
  | false =>
    refine wpT_skip (by rw [hw, hL]) fun K hK => hK _ _ (h.run _ _ ?_ hM)
    rw [hd]; exact hS.put hdn (by simp [hL])
theorem st_store (hT : TOK P T) (i : Nat) {t : TypeId} {td : TD} {x y : Operand} {g off : Nat} {B : TypeId} {v : Value} {cs cs' vs : List Value} (h1 : o.op = .store t x y) (hg : o.guard = none) (h2 : ev S x = some ([], .pointer (some ⟨g, off, none⟩))) (h3 : ev S y = some ([], v))
    (hm : nth M i = some (.cl g B cs)) (h4 : cellsO v = some vs) (h5 : lk t T = some td) (h6 : Nat.beq vs.length td.size = true) (h7 : oneAll vs = true) (h8 : spl cs off vs = some cs') (h9 : setM M i (.cl g B cs') = some M2) (hd : o.dst = none)
    (hM' : ∀ w, Mem w0 w M2 → Mem w0 w M') (h : ST P l0 Q rest n w0 M' S M2) : ST P l0 Q (o :: rest) n w0 M' S M := by
  refine ⟨fun a w hS hM => ?_⟩
  have hrun : (execOp a.eval o).run P w = .ok .skip (w.setRow g ⟨cs'⟩) := by
    unfold execOp
    simp only [h1, ev_spec hS h2 rfl, ev_spec hS h3 rfl, Sem.run_bind, run_storeAt hT (show Bk w g B ⟨cs⟩ from (hM.2.get hm).2) h4 h5 h6 h7 h8]
    rfl
  have hM2 := hM.setRow hm h9
  refine wpT_act (by unfold Region.wanted; rw [hg]) (by rw [h1]; rfl) (by rw [h1]; rfl) fun K hK => ?_
  unfold Oper.wp
  rw [hrun]
  simp only [Oper.upon]
  refine hK _ _ ⟨hM' _ hM2, h.run _ _ ?_ hM2⟩
  first | exact hS | (rw [hd]; exact hS)
theorem sc_regionT {id : Nat} {l : List Oper} (bs : List Bool) (hm : P.follows .mixedOrders = true) (hok : (okT kfY l.toArray && okM l.toArray) = true) (h : ST P l Q l n w0 (maskM bs M) S M) : SC P (.region id l.toArray true) Q n w0 S M :=
  ⟨fun a _ hS hM => wp_region_T (fun w' => Mem w0 w' (maskM bs M)) kfY hm hok (hM.drew.mask bs rfl) (h.run a _ hS hM.drew)⟩
end
end Go.Proofs.YtmdkfbmpenohiaaDoor.Y
