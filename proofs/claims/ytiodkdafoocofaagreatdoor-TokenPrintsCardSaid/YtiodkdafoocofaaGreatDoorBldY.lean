/- strings.Builder: what its methods do to a builder of the call's own, in the walker's second form. -/
import Derived.Test.YtiodkdafoocofaaGreatDoorTabY
import Derived.Test.YtiodkdafoocofaaGreatDoorBld
namespace Go.Proofs.YtiodkdafoocofaaGreatDoor.Y
open Go.RowKit
theorem sl_conv {P : Program} {l0 l : List Oper} {Q : Exit → Act → World → Prop} {n : Nat} {w0 : World} {S : Sts} {M M' : List Ent} (hc : ∀ w, Mem w0 w M → Mem w0 w M') (h : SL P l0 Q l n w0 S M') : SL P l0 Q l n w0 S M := ⟨fun a w h1 h2 => h.run a w h1 (hc w h2)⟩
theorem byteU8 : ByteOf Tryz.prog 5 1 := by unfold ByteOf; kernel_rfl
/-- a builder's own pointer, set or not yet. -/
def Bp (b : Nat) (p : Value) : Prop := p = .pointer none ∨ p = .pointer (some ⟨b, 0, none⟩)
theorem cc_Y {w0 : World} {M : List Ent} (b : Nat) (p v : Value) (w : World) (hM : Mem w0 w (.cl b 42 [p, v] :: M)) (hp : Bp b p) :
    Calls Tryz.prog 45 #[.pointer (some ⟨b, 0, none⟩)] w fun e w' => ∃ _ : Unit, True ∧ e = .returned (.tuple #[]) ∧ Mem w0 w' (.cl b 42 [.pointer (some ⟨b, 0, none⟩), v] :: M) := by
  have hb : Bk w b 42 #[p, v] := (hM.2.get (i := 0) rfl).2
  rcases hp with rfl | rfl
  · refine (cc_fresh b w (hb.at_ 0 rfl) (by simp [World.shape?, show w.heap[b]? = _ from hb]) (hb.free 0)).mono fun e w' ⟨h1, h2⟩ => ⟨(), trivial, h1, ?_⟩
    subst h2
    have hs : w.setCell ⟨b, 0, none⟩ (.pointer (some ⟨b, 0, none⟩)) = w.setRow b ⟨[.pointer (some ⟨b, 0, none⟩), v]⟩ := setCell_eq_setRow w b 0 #[.pointer none, v] 42 (0, 0) (.pointer (some ⟨b, 0, none⟩)) hb
    rw [hs]
    exact hM.setRow (i := 0) rfl rfl
  · exact (cc_used b w (hb.at_ 0 rfl)).mono fun e w' ⟨h1, h2⟩ => ⟨(), trivial, h1, h2 ▸ hM⟩
set_option maxRecDepth 100000 in
set_option maxHeartbeats 4000000 in
theorem ws_Y {w0 : World} {M : List Ent} (b : Nat) (p : Value) (a : Option Addr) (k c : Nat) (xs : List Value) (s : ByteArray) (w : World) (hM : Mem w0 w (.cl b 42 [p, .slice a k c] :: .own a c 5 1 k xs :: M)) (hp : Bp b p) (hlen : k + s.size ≤ 140737488355328) :
    Calls Tryz.prog 20 #[.pointer (some ⟨b, 0, none⟩), .string s] w fun e w' => ∃ q : Option Addr × Nat, True ∧ e = .returned (.tuple #[.int .i64 s.size, .nilIface]) ∧ Mem w0 w' (.cl b 42 [.pointer (some ⟨b, 0, none⟩), .slice q.1 (k + s.size) q.2] :: .own q.1 q.2 5 1 (k + s.size) (xs ++ cellsB s.data.toList) :: M) := by
  refine sx_enterM hM Tryz.func20 rfl Tryz.ntmps20 rfl rfl ?_
  repeat' (first | refine sc_seq ?_ | refine sc_region ?_ | refine sq_then ?_ | refine sc_ret ?_ | refine sc_skip ?_ | refine sc_block ?_ | refine sc_exit ?_ | refine sq_pass_ret ?_ | refine sq_pass_exit ?_ | refine sq_blk_normal ?_ | refine sq_blk_ret ?_ | refine sq_blk_hit ?_ | refine sq_blk_miss rfl ?_ | refine sc_regionD follows_any rfl (by kernel_rfl) ?_ | refine sx_nil ?_ | refine sr_nil0 ?_ | (refine sr_nil1 ?_; intro g) | refine sx_callE (σ := Unit) (fun _ => True) (fun _ => .tuple #[]) (fun _ => .cl b 42 [.pointer (some ⟨b, 0, none⟩), .slice a k c] :: .own a c 5 1 k xs :: M) rfl (callOp rfl rfl rfl rfl ⟨rfl, trivial⟩ rfl (by kernel_rfl)) (fun w hm => cc_Y b p _ w hm hp) rfl rfl (fun _ _ => ?_) | (refine sx_apps tok 1 rfl rfl rfl rfl rfl rfl rfl rfl (fun _ _ => rfl) byteU8 hlen rfl rfl ?_; intro sa sc) | ((first | refine' sx_v rfl ?_ rfl rfl ?_ | refine' sr_v rfl ?_ rfl rfl rfl ?_); rotate_left; first | exact vo_un tok rfl rfl rfl rfl | exact vo_bin tok rfl rfl rfl rfl rfl rfl | exact vo_or rfl rfl rfl rfl rfl | exact vo_and rfl rfl rfl rfl rfl | exact vo_load tok 0 rfl rfl rfl rfl rfl | exact vo_load tok 1 rfl rfl rfl rfl rfl | exact vo_load tok 2 rfl rfl rfl rfl rfl | exact vo_eqs tok eqOK rfl rfl rfl rfl rfl rfl (by kernel_rfl) | exact vo_nes tok eqOK rfl rfl rfl rfl rfl rfl (by kernel_rfl) | exact vo_len tok rfl rfl rfl rfl rfl rfl rfl | exact vo_max rfl rfl rfl rfl rfl | exact vo_min rfl rfl rfl rfl rfl | exact vo_sh rfl rfl rfl rfl rfl rfl rfl | exact vo_build tok rfl rfl trivial rfl rfl rfl | exact vo_build tok rfl rfl ⟨rfl, trivial⟩ rfl rfl rfl | exact vo_build tok rfl rfl ⟨rfl, rfl, trivial⟩ rfl rfl rfl | exact vo_build tok rfl rfl ⟨rfl, rfl, rfl, trivial⟩ rfl rfl rfl | exact vo_build tok rfl rfl ⟨rfl, rfl, rfl, rfl, trivial⟩ rfl rfl rfl | exact vo_build tok rfl rfl ⟨rfl, rfl, rfl, rfl, rfl, trivial⟩ rfl rfl rfl | exact vo_build tok rfl rfl ⟨rfl, rfl, rfl, rfl, rfl, rfl, trivial⟩ rfl rfl rfl | exact vo_build tok rfl rfl ⟨rfl, rfl, rfl, rfl, rfl, rfl, rfl, trivial⟩ rfl rfl rfl | exact vo_build tok rfl rfl ⟨rfl, rfl, rfl, rfl, rfl, rfl, rfl, rfl, trivial⟩ rfl rfl rfl) | (refine sx_box rfl rfl rfl rfl rfl rfl ?_; intro g) | (refine sx_alloc tok rfl rfl rfl rfl rfl rfl ?_; intro g) | refine sr_alloc tok rfl rfl rfl rfl rfl rfl ?_ | refine sr_box rfl rfl rfl rfl rfl rfl ?_ | refine sx_store tok 0 rfl rfl rfl rfl rfl rfl rfl rfl rfl rfl rfl rfl ?_ | refine sx_store tok 1 rfl rfl rfl rfl rfl rfl rfl rfl rfl rfl rfl rfl ?_ | refine sx_store tok 2 rfl rfl rfl rfl rfl rfl rfl rfl rfl rfl rfl rfl ?_ | refine sc_cond rfl (fun h => ?_) (fun h => ?_))
  all_goals
    refine sq_ret tok (fun _ => 0) rfl rfl trivial rfl fun w hm => ⟨(_, _), trivial, rfl, hm⟩
/-- what the builder holds, as a string. -/
theorem str_Y {w0 : World} {M : List Ent} (b : Nat) (p : Value) (a : Option Addr) (k c : Nat) (l : List UInt8) (w : World) (hM : Mem w0 w (.cl b 42 [p, .slice a k c] :: .own a c 5 1 k (cellsB l) :: M)) (hp : Bp b p) :
    Calls Tryz.prog 23 #[.pointer (some ⟨b, 0, none⟩)] w fun e w' => ∃ _ : Unit, True ∧ e = .returned (.string ⟨l.toArray⟩) ∧ Mem w0 w' [] := by
  have hb := hM.2.get (i := 0) rfl
  have ho : w.ownsRow w0.heap.size 5 1 (.slice a k c) k (cellsB l) := hM.2.get (i := 1) rfl
  have hk : k = (cellsB l).length := by have := ho.1; omega
  have hap : Value.ownBlock (.slice a k c) ≠ some b := by
    cases a with
    | none => simp [Value.ownBlock]
    | some a1 =>
      have := hM.2.2.1 (.own (some a1) c 5 1 k (cellsB l)) (List.mem_cons_self ..) b
      intro e
      simp only [Value.ownBlock, Option.some.injEq] at e
      exact this.1 rfl (by simp only [Ent.foot, Ent.mut]; exact e.symm)
  have hB : Lib.BuilderAtF 42 5 w0.heap.size b p (Lib.byteCells l) w := ⟨hb.1, _, hb.2, by have h := World.ownsRowF_of ho; rw [hk] at h ⊢; exact h, hap⟩
  have hI : IsB w0.heap.size b (Lib.byteCells l) w := hp.elim (fun e => .inl (e ▸ hB)) (fun e => .inr (e ▸ hB))
  exact (str_any w0.heap.size b l w hI hM.1.size).mono fun e w' ⟨h1, _, h2, _⟩ => ⟨(), trivial, h1, hM.1.trans h2, trivial⟩
set_option maxRecDepth 100000 in
theorem len_Y {w0 : World} {M : List Ent} (b : Nat) (p : Value) (a : Option Addr) (k c : Nat) (w : World) (hM : Mem w0 w (.cl b 42 [p, .slice a k c] :: M)) :
    Calls Tryz.prog 22 #[.pointer (some ⟨b, 0, none⟩)] w fun e w' => e = .returned (.int .i64 k) ∧ Below w.heap.size w w' := by
  have hb : Bk w b 42 #[p, .slice a k c] := (hM.2.get (i := 0) rfl).2
  refine sx_enter Tryz.func22 rfl Tryz.ntmps22 rfl rfl ?_
  repeat' (first | refine sc_seq ?_ | refine sc_region ?_ | refine sq_then ?_ | refine sc_ret ?_ | refine sc_skip ?_ | refine sc_block ?_ | refine sc_exit ?_ | refine sq_pass_ret ?_ | refine sq_pass_exit ?_ | refine sq_blk_normal ?_ | refine sq_blk_ret ?_ | refine sq_blk_hit ?_ | refine sq_blk_miss rfl ?_ | refine sc_regionD follows_any rfl (by kernel_rfl) ?_ | refine sx_nil ?_ | refine sr_nil0 ?_ | (refine sr_nil1 ?_; intro g) | ((first | refine' sx_v rfl ?_ rfl rfl ?_ | refine' sr_v rfl ?_ rfl rfl rfl ?_); rotate_left; first | exact vo_old tok rfl rfl rfl rfl rfl (hb.at_ 1 rfl) | exact vo_un tok rfl rfl rfl rfl | exact vo_bin tok rfl rfl rfl rfl rfl rfl | exact vo_or rfl rfl rfl rfl rfl | exact vo_and rfl rfl rfl rfl rfl | exact vo_load tok 0 rfl rfl rfl rfl rfl | exact vo_eqs tok eqOK rfl rfl rfl rfl rfl rfl (by kernel_rfl) | exact vo_nes tok eqOK rfl rfl rfl rfl rfl rfl (by kernel_rfl) | exact vo_len tok rfl rfl rfl rfl rfl rfl rfl | exact vo_max rfl rfl rfl rfl rfl | exact vo_min rfl rfl rfl rfl rfl | exact vo_sh rfl rfl rfl rfl rfl rfl rfl | exact vo_build tok rfl rfl trivial rfl rfl rfl | exact vo_build tok rfl rfl ⟨rfl, trivial⟩ rfl rfl rfl | exact vo_build tok rfl rfl ⟨rfl, rfl, trivial⟩ rfl rfl rfl | exact vo_build tok rfl rfl ⟨rfl, rfl, rfl, trivial⟩ rfl rfl rfl | exact vo_build tok rfl rfl ⟨rfl, rfl, rfl, rfl, trivial⟩ rfl rfl rfl | exact vo_build tok rfl rfl ⟨rfl, rfl, rfl, rfl, rfl, trivial⟩ rfl rfl rfl | exact vo_build tok rfl rfl ⟨rfl, rfl, rfl, rfl, rfl, rfl, trivial⟩ rfl rfl rfl | exact vo_build tok rfl rfl ⟨rfl, rfl, rfl, rfl, rfl, rfl, rfl, trivial⟩ rfl rfl rfl | exact vo_build tok rfl rfl ⟨rfl, rfl, rfl, rfl, rfl, rfl, rfl, rfl, trivial⟩ rfl rfl rfl) | (refine sx_box rfl rfl rfl rfl rfl rfl ?_; intro g) | (refine sx_alloc tok rfl rfl rfl rfl rfl rfl ?_; intro g) | refine sr_alloc tok rfl rfl rfl rfl rfl rfl ?_ | refine sr_box rfl rfl rfl rfl rfl rfl ?_ | refine sx_store tok 0 rfl rfl rfl rfl rfl rfl rfl rfl rfl rfl rfl rfl ?_ | refine sc_cond rfl (fun h => ?_) (fun h => ?_))
  all_goals
    refine sq_ret tok (fun _ => 0) rfl rfl trivial rfl fun w hm => ⟨rfl, hm.below⟩
end Go.Proofs.YtiodkdafoocofaaGreatDoor.Y
