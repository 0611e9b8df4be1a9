/- Texts of this claim merged into one: KAppO, KClone. -/
import Derived.Test.YtklcfjlmlbnkaaaGreatDoorKSyw
import Derived.Laws.OwnMore
import Derived.Test.YtklcfjlmlbnkaaaGreatDoorKBunT
namespace Go.Proofs.YtklcfjlmlbnkaaaGreatDoor.Y
open Go.RowKit
theorem qM : ∀ {M : List Ent} {i : Nat} {e : Ent}, dI M i = some e → ek M i e = some M
  | [], _, _, h => by cases h
  | x :: r, 0, e, h => by
    obtain rfl : x = e := by simpa [dI] using h
    rfl
  | x :: r, i + 1, e, h => by
    have := qM (M := r) (i := i) (e := e) (by simpa [dI] using h)
    simp [ek, this]
section
variable {P : Program} {T : eo} {Q : Exit → Act → World → Prop} {n : Nat} {w0 : World} {S : bq} {M : List Ent} {o : Oper} {l0 rest l : List Oper} {d : Nat}
theorem qN {B0 w : World} {g : Nat} {e : TypeId} {cs : List Value} (len size : Nat) (h : Mem B0 w (.cl g e cs :: M)) (h1 : cs.length = len * size) (h2 : len ≤ maxLen) : Mem B0 w (.own (some ⟨g, 0, none⟩) len e size len cs :: M) := by
  obtain ⟨hb, ho, ha, hr⟩ := h
  refine ⟨hb, ⟨h1, .inr ⟨g, len, ⟨cs⟩, rfl, ho.1, ho.2, Nat.le_refl _, h2, by simpa using h1, ?_⟩⟩, ha, hr⟩
  show cs.take _ = cs
  exact List.take_of_length_le (by omega)
theorem iX {g : Nat} {e : TypeId} {cs : List Value} (len size : Nat) (h1 : cs.length = len * size) (h2 : len ≤ maxLen) (h : SL P l0 Q l n w0 S (.own (some ⟨g, 0, none⟩) len e size len cs :: M)) : SL P l0 Q l n w0 S (.cl g e cs :: M) := ⟨fun a w h3 h4 => h.run a w h3 (qN len size h4 h1 h2)⟩
theorem DM (hT : TOK P T) (i : Nat) {s x : Operand} {t e : TypeId} {z : Value} {td : TD} {a : Option Addr} {cap k : Nat} {xs : List Value} (h1 : o.op = .call ⟨.builtin .append, #[s, x], #[t, t]⟩) (hg : o.guard = none)
    (h2 : ev S s = some ([], .slice a k cap)) (h3 : ev S x = some ([], .slice none 0 0)) (h4 : lk t T = some (.slc e z)) (h5 : lk e T = some td)
    (hi : dI M i = some (.own a cap e td.size k xs))
    (hd : o.dst = some d) (hn : Nat.blt d n = true) (h : SL P l0 Q rest n w0 ((d, [], .slice a k cap) :: S) M) : SL P l0 Q (o :: rest) n w0 S M := by
  have hdn : d < n := Nat.le_of_ble_eq_true hn
  refine ci (L := []) (by rw [hg]; rfl) (fun hL ac w hS hM => ?_) (fun hL => by cases hL)
  have hu := cw (hT.get h4)
  obtain ⟨inf, hinf, hs, hz⟩ := bu (hT.get h5)
  have hown : w.ownsRow w0.heap.size e td.size (.slice a k cap) k xs := hM.2.get hi
  have hrun : (execOp ac.eval o).run P w = .ok (.value (.slice a k cap)) w := by
    unfold execOp
    simp only [h1, resolve, invoke, builtin, Sem.run_bind, Sem.run_pure, Result.andThen_ok, List.map_toArray, List.map_cons, List.map_nil, av hS h2 rfl, av hS h3 rfl]
    rw [run_append_owned_none (P := P) w w0.heap.size t o.type e inf td.size hu hinf (.slice a k cap) k xs hown]
    rfl
  refine aX hrun (h.run _ _ ?_ hM)
  rw [hd]; exact hS.put hdn (by simp [az])
end
end Go.Proofs.YtklcfjlmlbnkaaaGreatDoor.Y
namespace Go.Proofs.YtklcfjlmlbnkaaaGreatDoor.Y
open Go.RowKit
theorem xI : cX Tryz.prog 9 16 := by unfold cX; kernel_rfl
set_option maxRecDepth 100000 in
set_option maxHeartbeats 4000000 in
theorem rU (x : Option Addr) (n c : Nat) (cs : List Value) (w : World) (hx : x = none → n = 0) (hin : ∀ ad, x = some ad → ∀ j u, cs[j]? = some u → w.cell? (ad.add j) = some u) (hlen : cs.length = n * 1) (hone : ∀ u ∈ cs, u.oneCell' = true) (hb : n * 16 ≤ 140737488355328) : Calls Tryz.prog 49 #[.slice x n c] w fun e w' => ∃ p : Option Addr × Nat, e = .returned (.slice p.1 n p.2) ∧ w'.ownsRow w.heap.size 9 1 (.slice p.1 n p.2) n cs ∧ Below w.heap.size w w' := by
  refine aA Tryz.func49 rfl Tryz.ntmps49 J J ?_
  cases x with
  | none =>
    obtain rfl := hx rfl
    obtain rfl : cs = [] := List.eq_nil_of_length_eq_zero (by omega)
    repeat' refine nx ?_
    refine aq J J ?_
    repeat' refine nx ?_
    (refine rt ?_; refine fun w1 hm => ⟨(none, 0), rfl, World.ownsRow_nil _ _ _ _, hm.below⟩)
  | some ad =>
    repeat' refine nx ?_
    refine ai J J ?_
    repeat' (first | (refine cE af J J J trivial J J J J J J J J ?_; intro g) | refine nx ?_)
    refine iX 0 1 rfl (Nat.zero_le _) ?_
    skip
    refine jZ af 0 J J J J J J J J (fun _ _ => rfl) xI (fun w1 hm j u hu => ?_) (.inr hone) hlen (by unfold maxLen; omega) (by omega) J J ?_
    · have h1 := hin ad rfl j u hu
      exact (hm.below.cell (block_lt_of_cell h1)).trans h1
    intro sa sc
    repeat' refine cV ?_
    (refine rt ?_; refine fun w1 hm => ⟨(sa, sc), by rw [Nat.zero_add], ?_, hm.below⟩)
    have h1 := hm.2.get (i := 0) rfl
    rw [Nat.zero_add, List.nil_append] at h1
    exact h1
theorem Bd : cX Tryz.prog 85 32 := by unfold cX; kernel_rfl
set_option maxRecDepth 100000 in
set_option maxHeartbeats 4000000 in
theorem qk (x : Option Addr) (n c : Nat) (cs : List Value) (w : World) (hx : x = none → n = 0) (hin : ∀ ad, x = some ad → ∀ j u, cs[j]? = some u → w.cell? (ad.add j) = some u) (hlen : cs.length = n * 2) (hone : ∀ u ∈ cs, u.oneCell' = true) (hb : n * 32 ≤ 140737488355328) : Calls Tryz.prog 24 #[.slice x n c] w fun e w' => ∃ p : Option Addr × Nat, e = .returned (.slice p.1 n p.2) ∧ w'.ownsRow w.heap.size 85 2 (.slice p.1 n p.2) n cs ∧ Below w.heap.size w w' := by
  refine aA Tryz.func24 rfl Tryz.ntmps24 J J ?_
  cases x with
  | none =>
    obtain rfl := hx rfl
    obtain rfl : cs = [] := List.eq_nil_of_length_eq_zero (by omega)
    repeat' refine nx ?_
    refine aq J J ?_
    repeat' refine nx ?_
    (refine rt ?_; refine fun w1 hm => ⟨(none, 0), rfl, World.ownsRow_nil _ _ _ _, hm.below⟩)
  | some ad =>
    repeat' refine nx ?_
    refine ai J J ?_
    repeat' (first | (refine cE af J J J trivial J J J J J J J J ?_; intro g) | refine nx ?_)
    refine iX 0 2 rfl (Nat.zero_le _) ?_
    skip
    refine jZ af 0 J J J J J J J J (fun _ _ => rfl) Bd (fun w1 hm j u hu => ?_) (.inr hone) hlen (by unfold maxLen; omega) (by omega) J J ?_
    · have h1 := hin ad rfl j u hu
      exact (hm.below.cell (block_lt_of_cell h1)).trans h1
    intro sa sc
    repeat' refine cV ?_
    (refine rt ?_; refine fun w1 hm => ⟨(sa, sc), by rw [Nat.zero_add], ?_, hm.below⟩)
    have h1 := hm.2.get (i := 0) rfl
    rw [Nat.zero_add, List.nil_append] at h1
    exact h1
end Go.Proofs.YtklcfjlmlbnkaaaGreatDoor.Y
