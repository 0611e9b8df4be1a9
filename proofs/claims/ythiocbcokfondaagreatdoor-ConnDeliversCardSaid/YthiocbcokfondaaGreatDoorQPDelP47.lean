/- ConnDelivers: two ends of a connection deliver what is written, in order, for every input; the card ties the listed package-level variables to the program text. -/
import Derived.Test.YthiocbcokfondaaGreatDoorRows
import Derived.Test.YthiocbcokfondaaGreatDoorCards
import Derived.Test.YthiocbcokfondaaGreatDoorTie
import Derived.SevenTiedAt
import Derived.Test.YthiocbcokfondaaGreatDoorQBunK
import Derived.Lay
import Derived.Test.YthiocbcokfondaaGreatDoorQStP
import Derived.Test.YthiocbcokfondaaGreatDoorQShaped
import Derived.Lib.SmallJoins
import Derived.OpenShut
import Derived.ShutString
import Derived.SizedLaws
import Derived.ProofKit
import Derived.Stop.Joined
namespace Go.Proofs.YthiocbcokfondaaGreatDoor.connDelivers
open Go.ChangeShapes Go.WideShapes Go.ChangeAt Go.RowKit
open Go.ChangeMaps (open_string shut_string)

theorem own : ownKnob Tryz.prog.godebug = none := by kernel_rfl
theorem laid : laidOutB Tryz.prog = true := by kernel_rfl
set_option maxRecDepth 100000 in
theorem Df (os : Os) (started : os.Started) (H : Type) (enc : TypeId × Value → H) :
    ReturnsInHanded {} Tryz.checked os 4 .any (fun w args => (Rows.connDeliversSpec.pre enc Tryz.prog Tryz.f4 Rows.connDeliversRow.domain false w args ∧ laidMetH Tryz.prog Rows.connDeliversRow.laid w) ∧ sizedMet enc Tryz.prog Tryz.f4 (OpenSpec.ofChange Rows.connDeliversSpec) false w args)
      (Rows.connDeliversSpec.post enc Tryz.prog Tryz.f4 false true false false) := by
  refine mX (C := Tryz.checked) (X := fun w _ => laidMetH Tryz.prog Rows.connDeliversRow.laid w) (fun _ _ _ hh h => h.of_heap hh) own started (by kernel_rfl) Tryz.func4
    (ChangeSpec.witness_shaped (enc := enc) (C := Tryz.checked) (os := os) (X := fun w _ => laidMetH Tryz.prog Rows.connDeliversRow.laid w) false (World.laidAll Tryz.prog os Rows.connDeliversRow.laid) #[.int .u8 0, .slice none 0 0] 8 (World.laidAll_os _ _ _) (World.shaped_of_ZipB (by kernel_rfl) (by kernel_rfl)) (by kernel_rfl) (by kernel_rfl) (by kernel_rfl) (by rw [MakeChecks.laidMetH_plain _ _ _ (by kernel_rfl)]; exact laidMet_laidAll _ (by kernel_rfl) (by kernel_rfl))) ?_
  intro W base args ds gs before hval0 hW hsz hLL hSh
  have _hL : laidMet Tryz.prog Rows.connDeliversRow.laid W := by rw [MakeChecks.laidMetH_plain _ _ _ (by kernel_rfl)] at hLL; exact hLL
  have hval : ∀ (j : Nat) t v, Tryz.f4.params[j]? = some t → args[j]? = some v → Value.okWide Tryz.prog W .any base t v := hval0
  have hW' := hW
  obtain ⟨p, q, hA0, hV, rfl, hfz, hnd⟩ := hW
  have hA : DataW.TrodAll enc Tryz.prog W 0 (fun _ => true) true Tryz.f4.params.toList args.toList ds p := hA0
  rw [Tryz.params4] at hA hval
  obtain ⟨v0, vs0, d0, ds0, p0, q0, hargs, rfl, rfl, h0, r0⟩ := trodAll_cons hA
  obtain ⟨v1, vs1, d1, ds1, p1, q1, rfl, rfl, rfl, h1, r1⟩ := trodAll_cons r0
  obtain ⟨rfl, rfl, rfl⟩ := trodAll_nil r1
  obtain rfl : args = #[v0, v1] := by cases args; simp_all
  obtain ⟨rfl, rfl⟩ := trodVars_none hV
  obtain ⟨a0, rfl, rfl, rfl, w0⟩ := open_int Tryz.underlying5 (hval 0 5 v0 rfl rfl) h0
  obtain ⟨n0, rfl, u0⟩ : ∃ n : Nat, a0 = (n : Int) ∧ n < 256 := by
    have h1 : (0 : Int) ≤ a0 ∧ a0 ≤ 255 := by simpa [Lit.wf, IntKind.min, IntKind.max, IntKind.signed, IntKind.bits] using w0
    exact ⟨a0.toNat, by omega, by omega⟩
  obtain ⟨x1, n1, cap1, rfl, l1, q1⟩ := Y.Dg Y.af (t := 45) (ks := [.int .i64, .str]) rfl rfl rfl rfl (by kernel_rfl) (fun m hm => by have hz := List.all_eq_true.1 hsz _ (DataW.weights_mem_each (j := 1) (t := 45) (d := d1) (by rw [Tryz.params4]; rfl) rfl m hm); exact of_decide_eq_true hz) (hval 1 45 v1 rfl rfl) h1
  clear hA0 hval0
  obtain ⟨ls, rfl, hR⟩ := Y.AD q1
  refine (Y.Ey (n0 : Int) x1 ls cap1 W ⟨by omega, by omega⟩ hR (BU hSh)).mono fun e W' ⟨he, hb⟩ => ?_
  subst he
  exact ⟨_, rfl, ya laid hW' hb (by kernel_rfl) (by kernel_rfl) rfl Tryz.underlying4 rfl rfl rfl⟩

theorem xV : Rows.ConnDeliversSaid :=
  OpenClaim.holds_of_wide 4 Tryz.f4 rfl rfl rfl rfl rfl rfl rfl ⟨rfl, rfl, rfl, rfl, rfl⟩ rfl rfl rfl rfl rfl (by kernel_rfl) Tryz.func4 (by kernel_rfl)
    (of_decide_eq_true (by kernel_rfl)) (by unfold Func.isWrapper; first | (rw [if_pos (by decide +kernel)]; kernel_rfl) | (rw [if_neg (by decide +kernel)]; exact ⟨rfl, rfl⟩))
    (fun os started H enc _ => Df os started H enc)
/-- THE STATEMENT: the tied card. -/
theorem proved : Rows.ConnDeliversCardSaid :=
  Claim7.holds_tied_plain_at .later [] [.data, .pinned] true (true, "0faeccd67456158335430b113d5a6641dac52bad81a985c72641d6ca6b669c64") false
    xV (fun _ h => by cases h) (by kernel_rfl) (fun _ h => by cases h) connDelivers_row_tie rfl ⟨rfl, rfl⟩ (by kernel_rfl) rfl
    (fun f fn hf hfn => by
      obtain rfl : f = 4 := Option.some.inj ((show Tryz.prog.funcNamed "wireschema/wireschemalaw47.ConnDelivers" = some 4 by kernel_rfl).symm.trans hf) |>.symm
      obtain rfl : fn = Tryz.f4 := (Option.some.inj (Tryz.func4.symm.trans hfn)).symm
      exact ⟨by kernel_rfl, fun j t ht => by
        rw [Tryz.params4] at ht
        have hm := Array.mem_of_getElem? ht
        have hall : (Tryz.f4.params.toList.all fun u => !Tryz.prog.wantsStandIn u) = true := by kernel_rfl
        rw [Tryz.params4] at hall
        exact (show Tryz.prog.wantsStandIn t = false by simpa using List.all_eq_true.1 hall t (by simpa using hm))⟩)
    (by kernel_rfl)
end Go.Proofs.YthiocbcokfondaaGreatDoor.connDelivers
