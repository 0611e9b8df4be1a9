/- Texts of this claim merged into one: VAppO, VClone, VVac. -/
import Derived.Test.YthiocbcokfondaaGreatDoorVSyw
import Derived.Laws.OwnMore
import Derived.Test.YthiocbcokfondaaGreatDoorVBunT
namespace Go.Proofs.YthiocbcokfondaaGreatDoor.Y
open Go.RowKit
section
variable {P : Program} {T : dG} {Q : Exit → Act → World → Prop} {n : Nat} {w0 : World} {S : br} {M : List Ent} {o : Oper} {l0 rest l : List Oper} {d : Nat}
theorem qt {B0 w : World} {g : Nat} {e : TypeId} {cs : List Value} (len size : Nat) (h : Mem B0 w (.cl g e cs :: M)) (h1 : cs.length = len * size) (h2 : len ≤ maxLen) : Mem B0 w (.own (some ⟨g, 0, none⟩) len e size len cs :: M) := by
  obtain ⟨hb, ho, ha, hr⟩ := h
  refine ⟨hb, ⟨h1, .inr ⟨g, len, ⟨cs⟩, rfl, ho.1, ho.2, Nat.le_refl _, h2, by simpa using h1, ?_⟩⟩, ha, hr⟩
  show cs.take _ = cs
  exact List.take_of_length_le (by omega)
theorem gf {g : Nat} {e : TypeId} {cs : List Value} (len size : Nat) (h1 : cs.length = len * size) (h2 : len ≤ maxLen) (h : SL P l0 Q l n w0 S (.own (some ⟨g, 0, none⟩) len e size len cs :: M)) : SL P l0 Q l n w0 S (.cl g e cs :: M) := ⟨fun a w h3 h4 => h.run a w h3 (qt len size h4 h1 h2)⟩
end
end Go.Proofs.YthiocbcokfondaaGreatDoor.Y
namespace Go.Proofs.YthiocbcokfondaaGreatDoor.Y
open Go.RowKit
theorem xE : dR Tryz.prog 9 16 := by unfold dR; kernel_rfl
set_option maxRecDepth 100000 in
set_option maxHeartbeats 4000000 in
theorem mq (x : Option Addr) (n c : Nat) (cs : List Value) (w : World) (hx : x = none → n = 0) (hin : ∀ ad, x = some ad → ∀ j u, cs[j]? = some u → w.cell? (ad.add j) = some u) (hlen : cs.length = n * 1) (hone : ∀ u ∈ cs, u.oneCell' = true) (hb : n * 16 ≤ 140737488355328) : Calls Tryz.prog 91 #[.slice x n c] w fun e w' => ∃ p : Option Addr × Nat, e = .returned (.slice p.1 n p.2) ∧ w'.ownsRow w.heap.size 9 1 (.slice p.1 n p.2) n cs ∧ Below w.heap.size w w' := by
  refine aI Tryz.func91 rfl Tryz.ntmps91 J J ?_
  cases x with
  | none =>
    obtain rfl := hx rfl
    obtain rfl : cs = [] := List.eq_nil_of_length_eq_zero (by omega)
    repeat' (first | refine ah ?_ | refine aa ?_ | refine ab ?_ | refine ae ?_ | ((refine' am rfl ?_ J J ?_); rotate_left; first | exact ai af J J J J | exact ap af J J J J J J))
    refine aF J J ?_
    repeat' (first | refine ah ?_ | refine aa ?_ | refine ab ?_ | refine az ?_ | refine ak ?_ | refine ae ?_ | ((refine' am rfl ?_ J J ?_); rotate_left; exact ai af J J J J))
    refine ay af (fun _ => 0) J J trivial rfl fun w1 hm => ⟨(none, 0), rfl, World.ownsRow_nil _ _ _ _, hm.below⟩
  | some ad =>
    repeat' (first | refine ah ?_ | refine aa ?_ | refine ab ?_ | refine ae ?_ | ((refine' am rfl ?_ J J ?_); rotate_left; first | exact ai af J J J J | exact ap af J J J J J J))
    refine au J J ?_
    repeat' (first | refine ah ?_ | refine aa ?_ | refine ab ?_ | refine ar ?_ | (refine eC af J J J trivial J J J J J J J J ?_; intro g) | ((refine' am rfl ?_ J J ?_); rotate_left; exact ai af J J J J))
    refine gf 0 1 rfl (Nat.zero_le _) ?_
    skip
    refine jc af 0 J J J J J J J J (fun _ _ => rfl) xE (fun w1 hm j u hu => ?_) (.inr hone) hlen (by unfold maxLen; omega) (by omega) J J ?_
    · have h1 := hin ad rfl j u hu
      exact (hm.below.cell (block_lt_of_cell h1)).trans h1
    intro sa sc
    repeat' (first | refine ab ?_ | refine az ?_ | refine ae ?_ | ((refine' am rfl ?_ J J ?_); rotate_left; exact ai af J J J J))
    refine ay af (fun _ => 0) J J trivial rfl fun w1 hm => ⟨(sa, sc), by rw [Nat.zero_add], ?_, hm.below⟩
    have h1 := hm.2.get (i := 0) rfl
    rw [Nat.zero_add, List.nil_append] at h1
    exact h1
theorem wh : dR Tryz.prog 93 32 := by unfold dR; kernel_rfl
set_option maxRecDepth 100000 in
set_option maxHeartbeats 4000000 in
theorem lj (x : Option Addr) (n c : Nat) (cs : List Value) (w : World) (hx : x = none → n = 0) (hin : ∀ ad, x = some ad → ∀ j u, cs[j]? = some u → w.cell? (ad.add j) = some u) (hlen : cs.length = n * 2) (hone : ∀ u ∈ cs, u.oneCell' = true) (hb : n * 32 ≤ 140737488355328) : Calls Tryz.prog 46 #[.slice x n c] w fun e w' => ∃ p : Option Addr × Nat, e = .returned (.slice p.1 n p.2) ∧ w'.ownsRow w.heap.size 93 2 (.slice p.1 n p.2) n cs ∧ Below w.heap.size w w' := by
  refine aI Tryz.func46 rfl Tryz.ntmps46 J J ?_
  cases x with
  | none =>
    obtain rfl := hx rfl
    obtain rfl : cs = [] := List.eq_nil_of_length_eq_zero (by omega)
    repeat' (first | refine ah ?_ | refine aa ?_ | refine ab ?_ | refine ae ?_ | ((refine' am rfl ?_ J J ?_); rotate_left; first | exact ai af J J J J | exact ap af J J J J J J))
    refine aF J J ?_
    repeat' (first | refine ah ?_ | refine aa ?_ | refine ab ?_ | refine az ?_ | refine ak ?_ | refine ae ?_ | ((refine' am rfl ?_ J J ?_); rotate_left; exact ai af J J J J))
    refine ay af (fun _ => 0) J J trivial rfl fun w1 hm => ⟨(none, 0), rfl, World.ownsRow_nil _ _ _ _, hm.below⟩
  | some ad =>
    repeat' (first | refine ah ?_ | refine aa ?_ | refine ab ?_ | refine ae ?_ | ((refine' am rfl ?_ J J ?_); rotate_left; first | exact ai af J J J J | exact ap af J J J J J J))
    refine au J J ?_
    repeat' (first | refine ah ?_ | refine aa ?_ | refine ab ?_ | refine ar ?_ | (refine eC af J J J trivial J J J J J J J J ?_; intro g) | ((refine' am rfl ?_ J J ?_); rotate_left; exact ai af J J J J))
    refine gf 0 2 rfl (Nat.zero_le _) ?_
    skip
    refine jc af 0 J J J J J J J J (fun _ _ => rfl) wh (fun w1 hm j u hu => ?_) (.inr hone) hlen (by unfold maxLen; omega) (by omega) J J ?_
    · have h1 := hin ad rfl j u hu
      exact (hm.below.cell (block_lt_of_cell h1)).trans h1
    intro sa sc
    repeat' (first | refine ab ?_ | refine az ?_ | refine ae ?_ | ((refine' am rfl ?_ J J ?_); rotate_left; exact ai af J J J J))
    refine ay af (fun _ => 0) J J trivial rfl fun w1 hm => ⟨(sa, sc), by rw [Nat.zero_add], ?_, hm.below⟩
    have h1 := hm.2.get (i := 0) rfl
    rw [Nat.zero_add, List.nil_append] at h1
    exact h1
end Go.Proofs.YthiocbcokfondaaGreatDoor.Y
namespace Go.Proofs.YthiocbcokfondaaGreatDoor.Y
open Go.RowKit
end Go.Proofs.YthiocbcokfondaaGreatDoor.Y
