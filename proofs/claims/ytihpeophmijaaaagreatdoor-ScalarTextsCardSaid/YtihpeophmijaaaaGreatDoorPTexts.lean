/- ScalarTexts: Text of any value is that of the reference; the card ties the listed package-level variables to the program text. -/
import Derived.Test.YtihpeophmijaaaaGreatDoorRows
import Derived.Test.YtihpeophmijaaaaGreatDoorCards
import Derived.Test.YtihpeophmijaaaaGreatDoorTie
import Derived.SevenTiedAt
import Derived.Test.YtihpeophmijaaaaGreatDoorLaid
import Derived.Test.YtihpeophmijaaaaGreatDoorScTxt
import Derived.Test.YtihpeophmijaaaaGreatDoorOpenY
import Derived.Test.YtihpeophmijaaaaGreatDoorGlobSc
import Derived.Lib.SmallJoins
import Derived.Test.YtihpeophmijaaaaGreatDoorLawPost
import Derived.OpenShut
import Derived.ShutString
import Derived.SizedLaws
import Derived.ProofKit
import Derived.Stop.Joined
namespace Go.Proofs.YtihpeophmijaaaaGreatDoor.scalarTexts
open Go.ChangeShapes Go.WideShapes Go.ChangeAt Go.RowKit
open Go.ChangeMaps (open_string shut_string)

theorem own : ownKnob Tryz.prog.godebug = none := by kernel_rfl
theorem laid : laidOutB Tryz.prog = true := by kernel_rfl
theorem door_met (os : Os) (args : Array Value) : laidMetH Tryz.prog Rows.scalarTextsRow.laid ((World.doorLaid Tryz.prog 400 os).forCall (fun _ _ => 0) ⟨#[], args, []⟩).memory :=
  laidMetH_of_parts3 (fuel := 8) (laidMet_of_run' 8 (by kernel_rfl) (by kernel_rfl)) (by kernel_rfl) (by kernel_rfl)
set_option maxRecDepth 100000 in
theorem lifted (os : Os) (started : os.Started) (H : Type) (enc : TypeId × Value → H) :
    ReturnsInHanded {} Tryz.checked os 3 .any (fun w args => (Rows.scalarTextsSpec.pre enc Tryz.prog Tryz.f3 Rows.scalarTextsRow.domain false w args ∧ laidMetH Tryz.prog Rows.scalarTextsRow.laid w) ∧ sizedMet enc Tryz.prog Tryz.f3 (OpenSpec.ofChange Rows.scalarTextsSpec) false w args)
      (Rows.scalarTextsSpec.post enc Tryz.prog Tryz.f3 false true false false) := by
  refine returnsInHanded_of_change_and (C := Tryz.checked) (X := fun w _ => laidMetH Tryz.prog Rows.scalarTextsRow.laid w) (fun _ _ _ hh h => h.of_heap hh) own started (by kernel_rfl) Tryz.func3
    (ChangeSpec.witness_shaped (enc := enc) (C := Tryz.checked) (os := os) (X := fun w _ => laidMetH Tryz.prog Rows.scalarTextsRow.laid w) false (World.doorLaid Tryz.prog 400 os) #[.agg #[.int .i64 0, .int .u64 0, .string ByteArray.empty, .slice none 0 0, .slice none 0 0, .slice none 0 0, .slice none 0 0]] 8 rfl (World.shaped_of_RefB (by kernel_rfl) (by kernel_rfl)) (by kernel_rfl) (by kernel_rfl) (by kernel_rfl) (door_met os _)) ?_
  intro W base args ds gs before hval0 hW hcnd hsz hLL _
  have hL : laidMet Tryz.prog Rows.scalarTextsRow.laid W := by rw [MakeChecks.laidMetH_plain _ _ _ (by kernel_rfl)] at hLL; exact hLL
  have hval : ∀ (j : Nat) t v, Tryz.f3.params[j]? = some t → args[j]? = some v → Value.okWide Tryz.prog W .any base t v := hval0
  have hW' := hW
  obtain ⟨p, q, hA0, hV, rfl, hfz, hnd⟩ := hW
  have hA : DataW.TrodAll enc Tryz.prog W 0 (fun _ => true) true Tryz.f3.params.toList args.toList ds p := hA0
  rw [Tryz.params3] at hA hval
  obtain ⟨v0, vs0, d0, ds0, p0, q0, hargs, rfl, rfl, h0, r0⟩ := trodAll_cons hA
  obtain ⟨rfl, rfl, rfl⟩ := trodAll_nil r0
  obtain rfl : args = #[v0] := by cases args; simp_all
  obtain ⟨rfl, rfl⟩ := trodVars_none hV
  obtain ⟨cs0, rfl, hk0_0⟩ := Y.open_struct Y.tok (t := 28) (ks := [.int .i64, .int .u64, .str, .slc, .slc, .slc, .slc]) rfl rfl (by kernel_rfl) (fun m hm => by have hz := List.all_eq_true.1 hsz _ (DataW.weights_mem_each (j := 0) (t := 28) (d := d0) (by rw [Tryz.params3]; rfl) rfl m hm); exact of_decide_eq_true hz) (hval 0 28 v0 rfl rfl) h0
  obtain ⟨_, _, rfl, ⟨c0_0, rfl, k0_0⟩, hk0_1⟩ := Y.okL_cons hk0_0
  obtain ⟨_, _, rfl, ⟨c0_1, rfl, k0_1⟩, hk0_2⟩ := Y.okL_cons hk0_1
  obtain ⟨_, _, rfl, ⟨c0_2, rfl, k0_2⟩, hk0_3⟩ := Y.okL_cons hk0_2
  obtain ⟨_, _, rfl, ⟨x0_3, n0_3, p0_3, rfl, k0_3⟩, hk0_4⟩ := Y.okL_cons hk0_3
  obtain ⟨_, _, rfl, ⟨x0_4, n0_4, p0_4, rfl, k0_4⟩, hk0_5⟩ := Y.okL_cons hk0_4
  obtain ⟨_, _, rfl, ⟨x0_5, n0_5, p0_5, rfl, k0_5⟩, hk0_6⟩ := Y.okL_cons hk0_5
  obtain ⟨_, _, rfl, ⟨x0_6, n0_6, p0_6, rfl, k0_6⟩, hk0_7⟩ := Y.okL_cons hk0_6
  obtain rfl := Y.okL_nil hk0_7
  have b0_0 : -9223372036854775808 ≤ c0_0 ∧ c0_0 ≤ 9223372036854775807 := by simpa [Lit.wf, IntKind.min, IntKind.max, IntKind.signed, IntKind.bits] using k0_0
  have b0_1 : 0 ≤ c0_1 ∧ c0_1 < 18446744073709551616 := by
    have hh := k0_1
    simp [Lit.wf, IntKind.min, IntKind.max, IntKind.signed, IntKind.bits] at hh
    omega
  clear hA0 hval0
  obtain ⟨u, rfl⟩ : ∃ u : Nat, c0_1 = (u : Int) := ⟨c0_1.toNat, by omega⟩
  refine (Y.texts_law c0_0 u c0_2 x0_3 x0_4 x0_5 x0_6 n0_3 p0_3 n0_4 p0_4 n0_5 p0_5 n0_6 p0_6 W ⟨by omega, by omega, by omega, by omega⟩ (by omega) (by omega) (Y.gs_of_laid hL (by simp [Rows.scalarTextsRow]) (by simp [Rows.scalarTextsRow]) (by simp [Rows.scalarTextsRow]) (by simp [Rows.scalarTextsRow]))).mono fun e W' ⟨he, hb⟩ => ?_
  subst he
  exact ⟨_, rfl, law_post laid hW' hb (by kernel_rfl) (by kernel_rfl) rfl Tryz.underlying4 rfl rfl rfl⟩

theorem row_holds : Rows.ScalarTextsSaid :=
  OpenClaim.holds_of_wide 3 Tryz.f3 rfl rfl rfl rfl rfl rfl rfl ⟨rfl, rfl, rfl, rfl, rfl⟩ rfl rfl rfl rfl rfl (by kernel_rfl) Tryz.func3 (by kernel_rfl)
    (of_decide_eq_true (by kernel_rfl)) (by unfold Func.isWrapper; first | (rw [if_pos (by decide +kernel)]; kernel_rfl) | (rw [if_neg (by decide +kernel)]; exact ⟨rfl, rfl⟩))
    (fun os started H enc _ => lifted os started H enc)
/-- THE STATEMENT: the tied card. -/
theorem proved : Rows.ScalarTextsCardSaid :=
  Claim7.holds_tied_plain_at .later [] [.data, .data, .data, .sentinel, .sentinel] true (true, "fb6937c3574664127a3c3c0ab8ad6b34aafaaa49286aff0ad436b1eb1272c156") true
    row_holds (fun _ h => by cases h) (by kernel_rfl) (fun _ h => by cases h) scalarTexts_row_tie rfl ⟨rfl, rfl⟩ (by kernel_rfl) rfl
    (fun f fn hf hfn => by
      obtain rfl : f = 3 := Option.some.inj ((show Tryz.prog.funcNamed "wireschema/wireschemalaw04.ScalarTexts" = some 3 by kernel_rfl).symm.trans hf) |>.symm
      obtain rfl : fn = Tryz.f3 := (Option.some.inj (Tryz.func3.symm.trans hfn)).symm
      exact ⟨by kernel_rfl, fun j t ht => by
        rw [Tryz.params3] at ht
        have hm := Array.mem_of_getElem? ht
        have hall : (Tryz.f3.params.toList.all fun u => !Tryz.prog.wantsStandIn u) = true := by kernel_rfl
        rw [Tryz.params3] at hall
        exact (show Tryz.prog.wantsStandIn t = false by simpa using List.all_eq_true.1 hall t (by simpa using hm))⟩)
    (by kernel_rfl)
end Go.Proofs.YtihpeophmijaaaaGreatDoor.scalarTexts
