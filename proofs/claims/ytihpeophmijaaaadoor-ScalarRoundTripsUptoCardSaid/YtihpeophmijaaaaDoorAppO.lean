/- append to a slice of the call's own the elements of another one (nil too); a slice literal as such a slice. -/
import Derived.Test.YtihpeophmijaaaaDoorSyw
import Derived.Laws.OwnMore
namespace Go.Proofs.YtihpeophmijaaaaDoor.Y
open Go.RowKit
theorem setM_self : ∀ {M : List Ent} {i : Nat} {e : Ent}, nth M i = some e → setM M i e = some M
  | [], _, _, h => by cases h
  | x :: r, 0, e, h => by
    obtain rfl : x = e := by simpa [nth] using h
    rfl
  | x :: r, i + 1, e, h => by
    have := setM_self (M := r) (i := i) (e := e) (by simpa [nth] using h)
    simp [setM, this]
section
variable {P : Program} {T : Tab} {Q : Exit → Act → World → Prop} {n : Nat} {w0 : World} {S : Sts} {M : List Ent} {o : Oper} {l0 rest l : List Oper} {d : Nat}
theorem mem_clown {B0 w : World} {g : Nat} {e : TypeId} {cs : List Value} (len size : Nat) (h : Mem B0 w (.cl g e cs :: M)) (h1 : cs.length = len * size) (h2 : len ≤ maxLen) : Mem B0 w (.own (some ⟨g, 0, none⟩) len e size len cs :: M) := by
  obtain ⟨hb, ho, ha, hr⟩ := h
  refine ⟨hb, ⟨h1, .inr ⟨g, len, ⟨cs⟩, rfl, ho.1, ho.2, Nat.le_refl _, h2, by simpa using h1, ?_⟩⟩, ha, hr⟩
  show cs.take _ = cs
  exact List.take_of_length_le (by omega)
theorem sl_clown {g : Nat} {e : TypeId} {cs : List Value} (len size : Nat) (h1 : cs.length = len * size) (h2 : len ≤ maxLen) (h : SL P l0 Q l n w0 S (.own (some ⟨g, 0, none⟩) len e size len cs :: M)) : SL P l0 Q l n w0 S (.cl g e cs :: M) := ⟨fun a w h3 h4 => h.run a w h3 (mem_clown len size h4 h1 h2)⟩
/-- nothing is appended. -/
theorem sx_appn (hT : TOK P T) (i : Nat) {s x : Operand} {t e : TypeId} {z : Value} {td : TD} {a : Option Addr} {cap k : Nat} {xs : List Value} (h1 : o.op = .call ⟨.builtin .append, #[s, x], #[t, t]⟩) (hg : o.guard = none)
    (h2 : ev S s = some ([], .slice a k cap)) (h3 : ev S x = some ([], .slice none 0 0)) (h4 : lk t T = some (.slc e z)) (h5 : lk e T = some td)
    (hi : nth M i = some (.own a cap e td.size k xs))
    (hd : o.dst = some d) (hn : Nat.blt d n = true) (h : SL P l0 Q rest n w0 ((d, [], .slice a k cap) :: S) M) : SL P l0 Q (o :: rest) n w0 S M := by
  have hdn : d < n := Nat.le_of_ble_eq_true hn
  refine sx_step (L := []) (by rw [hg]; rfl) (fun hL ac w hS hM => ?_) (fun hL => by cases hL)
  have hu := tdOf_slc (hT.get h4)
  obtain ⟨inf, hinf, hs, hz⟩ := tdOf_info (hT.get h5)
  have hown : w.ownsRow w0.heap.size e td.size (.slice a k cap) k xs := hM.2.get hi
  have hrun : (execOp ac.eval o).run P w = .ok (.value (.slice a k cap)) w := by
    unfold execOp
    simp only [h1, resolve, invoke, builtin, Sem.run_bind, Sem.run_pure, Result.andThen_ok, List.map_toArray, List.map_cons, List.map_nil, ev_spec hS h2 rfl, ev_spec hS h3 rfl]
    rw [run_append_owned_none (P := P) w w0.heap.size t o.type e inf td.size hu hinf (.slice a k cap) k xs hown]
    rfl
  refine vals_value hrun (h.run _ _ ?_ hM)
  rw [hd]; exact hS.put hdn (by simp [holdsC])
/-- the elements of another slice of the call's own. -/
theorem sx_appo (hT : TOK P T) (i j : Nat) {s x : Operand} {t e : TypeId} {z : Value} {td : TD} {a a2 : Option Addr} {cap k m c b : Nat} {xs news : List Value} {M2 : Option Addr → Nat → List Ent} (h1 : o.op = .call ⟨.builtin .append, #[s, x], #[t, t]⟩) (hg : o.guard = none)
    (h2 : ev S s = some ([], .slice a k cap)) (h3 : ev S x = some ([], .slice a2 m c)) (h4 : lk t T = some (.slc e z)) (h5 : lk e T = some td) (h6 : (match zeroO td with | some l => Nat.beq l.length td.size && Nat.blt 0 td.size | none => false) = true)
    (hi : nth M i = some (.own a cap e td.size k xs)) (hj : nth M j = some (.own a2 c e td.size m news)) (h9 : ∀ a' cap', setM M i (.own a' cap' e td.size (k + m) (xs ++ news)) = some (M2 a' cap')) (hb : ByteOf P e b)
    (h7 : oneAll news = true ∨ ∀ u ∈ news, u.oneCell' = true) (hmax : k + m ≤ maxLen) (hbytes : (k + m) * b ≤ 140737488355328)
    (hd : o.dst = some d) (hn : Nat.blt d n = true) (h : ∀ a' cap', SL P l0 Q rest n w0 ((d, [], .slice a' (k + m) cap') :: S) (M2 a' cap')) : SL P l0 Q (o :: rest) n w0 S M := by
  by_cases hm : m = 0
  · subst hm
    refine ⟨fun ac w hS hM => ?_⟩
    have hown : w.ownsRow w0.heap.size e td.size (.slice a2 0 c) 0 news := hM.2.get hj
    have hnil : news = [] := List.eq_nil_of_length_eq_zero (by have := hown.1; omega)
    subst hnil
    cases a2 with
    | none =>
      have hc : c = 0 := by
        rcases hown.2 with ⟨hv, _⟩ | ⟨g, _, _, hv, _⟩
        · simp only [Value.slice.injEq] at hv; exact hv.2.2
        · simp at hv
      subst hc
      refine (sx_appn hT i h1 hg h2 h3 h4 h5 hi hd hn ?_).run ac w hS hM
      have h' := h a cap
      have h9' := h9 a cap
      rw [Nat.add_zero, List.append_nil] at h9'
      rw [Nat.add_zero] at h'
      rwa [Option.some.inj ((setM_self hi).symm.trans h9')]
    | some ad =>
      exact (sx_app hT i h1 hg h2 h3 h4 h5 h6 hi h9 hb (fun _ _ q u hq => by cases hq) (.inl rfl) (by simp) hmax hbytes hd hn h).run ac w hS hM
  · refine ⟨fun ac w hS hM => ?_⟩
    have hown : w.ownsRow w0.heap.size e td.size (.slice a2 m c) m news := hM.2.get hj
    obtain ⟨g, rfl⟩ := own_some hown (by omega)
    refine (sx_app hT i h1 hg h2 h3 h4 h5 h6 hi h9 hb (fun w hM q u hq => ?_) h7 hown.1 hmax hbytes hd hn h).run ac w hS hM
    have ho : w.ownsRow w0.heap.size e td.size (.slice (some ⟨g, 0, none⟩) m c) m news := hM.2.get hj
    have e1 : (⟨g, 0, none⟩ : Addr).add q = ⟨g, q, none⟩ := by unfold Addr.add; split <;> simp_all
    rw [e1]
    exact own_cell ho hq
end
end Go.Proofs.YtihpeophmijaaaaDoor.Y
