/- TokenScans: Scan of any string is that of the reference (strings of up to 3000 bytes, or longer than permitted); the card ties the listed package-level variables to the program text. -/
import Derived.Test.YtiodkdafoocofaaGreatDoorRows
import Derived.Test.YtiodkdafoocofaaGreatDoorCards
import Derived.Test.YtiodkdafoocofaaGreatDoorTie
import Derived.SevenTiedAt
import Derived.Test.YtiodkdafoocofaaGreatDoorLaid
import Derived.Lay
import Derived.Test.YtiodkdafoocofaaGreatDoorRTok4
import Derived.Test.YtiodkdafoocofaaGreatDoorTokIn
import Derived.Test.YtiodkdafoocofaaGreatDoorShaped
import Derived.Test.YtiodkdafoocofaaGreatDoorLawPost
import Derived.OpenShut
import Derived.ShutString
import Derived.SizedLaws
import Derived.ProofKit
import Derived.Stop.Joined
namespace Go.Proofs.YtiodkdafoocofaaGreatDoor.tokenScans
open Go.ChangeShapes Go.WideShapes Go.ChangeAt Go.RowKit
open Go.ChangeMaps (open_string shut_string)

theorem own : ownKnob Tryz.prog.godebug = none := by kernel_rfl
theorem laid : laidOutB Tryz.prog = true := by kernel_rfl
set_option maxRecDepth 100000 in
theorem lifted (os : Os) (started : os.Started) (H : Type) (enc : TypeId × Value → H) :
    ReturnsInHanded {} Tryz.checked os 3 .any (fun w args => (Rows.tokenScansSpec.pre enc Tryz.prog Tryz.f3 Rows.tokenScansRow.domain false w args ∧ laidMetH Tryz.prog Rows.tokenScansRow.laid w) ∧ sizedMet enc Tryz.prog Tryz.f3 (OpenSpec.ofChange Rows.tokenScansSpec) false w args)
      (Rows.tokenScansSpec.post enc Tryz.prog Tryz.f3 false true false false) := by
  refine handed_and_shape (C := Tryz.checked) (X := fun w _ => laidMetH Tryz.prog Rows.tokenScansRow.laid w) (fun _ _ _ hh h => h.of_heap hh) own started (by kernel_rfl) Tryz.func3
    (ChangeSpec.witness_shaped (enc := enc) (C := Tryz.checked) (os := os) (X := fun w _ => laidMetH Tryz.prog Rows.tokenScansRow.laid w) false (World.laidAll Tryz.prog os Rows.tokenScansRow.laid) #[.string ByteArray.empty] 8 (World.laidAll_os _ _ _) (World.shaped_of_ZipB (by kernel_rfl) (by kernel_rfl)) (by kernel_rfl) (by kernel_rfl) (by kernel_rfl) (by rw [MakeChecks.laidMetH_plain _ _ _ (by kernel_rfl)]; exact laidMet_laidAll _ (by kernel_rfl) (by kernel_rfl))) ?_
  intro W base args ds gs before hval0 hW hsz hLL hSh
  have hL : laidMet Tryz.prog Rows.tokenScansRow.laid W := by rw [MakeChecks.laidMetH_plain _ _ _ (by kernel_rfl)] at hLL; exact hLL
  have hval : ∀ (j : Nat) t v, Tryz.f3.params[j]? = some t → args[j]? = some v → Value.okWide Tryz.prog W .any base t v := hval0
  have hW' := hW
  obtain ⟨p, q, hA0, hV, rfl, hfz, hnd⟩ := hW
  have hA : DataW.TrodAll enc Tryz.prog W 0 (fun _ => true) true Tryz.f3.params.toList args.toList ds p := hA0
  rw [Tryz.params3] at hA hval
  obtain ⟨v0, vs0, d0, ds0, p0, q0, hargs, rfl, rfl, h0, r0⟩ := trodAll_cons hA
  obtain ⟨rfl, rfl, rfl⟩ := trodAll_nil r0
  obtain rfl : args = #[v0] := by cases args; simp_all
  obtain ⟨rfl, rfl⟩ := trodVars_none hV
  obtain ⟨a0, rfl, rfl, rfl, w0⟩ := open_string Tryz.underlying9 (hval 0 9 v0 rfl rfl) h0
  have z0 : a0.size ≤ 140737488351232 := by
    have hz := sized_string hsz (j := 0) (t := 9) (bytes := a0.data.toList) (by rw [Tryz.params3]; rfl) rfl
    simpa [reachBytes] using hz
  clear hA0 hval0
  refine (Y.scans_law a0 W z0 ⟨Y.gs_of_laid hL (by simp [Rows.tokenScansRow]) (by simp [Rows.tokenScansRow]) (by simp [Rows.tokenScansRow]) (by simp [Rows.tokenScansRow]), mlen_of hSh⟩).mono fun e W' ⟨he, hb⟩ => ?_
  subst he
  exact ⟨_, rfl, law_post laid hW' hb (by kernel_rfl) (by kernel_rfl) rfl Tryz.underlying4 rfl rfl rfl⟩

theorem row_holds : Rows.TokenScansSaid :=
  OpenClaim.holds_of_wide 3 Tryz.f3 rfl rfl rfl rfl rfl rfl rfl ⟨rfl, rfl, rfl, rfl, rfl⟩ rfl rfl rfl rfl rfl (by kernel_rfl) Tryz.func3 (by kernel_rfl)
    (of_decide_eq_true (by kernel_rfl)) (by unfold Func.isWrapper; first | (rw [if_pos (by decide +kernel)]; kernel_rfl) | (rw [if_neg (by decide +kernel)]; exact ⟨rfl, rfl⟩))
    (fun os started H enc _ => lifted os started H enc)
/-- THE STATEMENT: the tied card. -/
theorem proved : Rows.TokenScansCardSaid :=
  Claim7.holds_tied_plain_at .later [] [.data, .data, .data, .data, .sentinel, .sentinel, .pinned] true (true, "ad60f159fcac33ba4dd83cd52c97e5abace412458b56c1de941ed608c8e672c1") true
    row_holds (fun _ h => by cases h) (by kernel_rfl) (fun _ h => by cases h) tokenScans_row_tie rfl ⟨rfl, rfl⟩ (by kernel_rfl) rfl
    (fun f fn hf hfn => by
      obtain rfl : f = 3 := Option.some.inj ((show Tryz.prog.funcNamed "wireschema/wireschemalaw07.TokenScans" = some 3 by kernel_rfl).symm.trans hf) |>.symm
      obtain rfl : fn = Tryz.f3 := (Option.some.inj (Tryz.func3.symm.trans hfn)).symm
      exact ⟨by kernel_rfl, fun j t ht => by
        rw [Tryz.params3] at ht
        have hm := Array.mem_of_getElem? ht
        have hall : (Tryz.f3.params.toList.all fun u => !Tryz.prog.wantsStandIn u) = true := by kernel_rfl
        rw [Tryz.params3] at hall
        exact (show Tryz.prog.wantsStandIn t = false by simpa using List.all_eq_true.1 hall t (by simpa using hm))⟩)
    (by kernel_rfl)
end Go.Proofs.YtiodkdafoocofaaGreatDoor.tokenScans
