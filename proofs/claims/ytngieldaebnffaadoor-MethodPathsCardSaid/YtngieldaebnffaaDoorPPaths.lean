/- MethodPaths: every method of a schema whose names are valid is found by its path, if no service or method before it has the same name (at most 8 services); the card ties the listed package-level variables to the program text. -/
import Derived.Test.YtngieldaebnffaaDoorRows
import Derived.Test.YtngieldaebnffaaDoorCards
import Derived.Test.YtngieldaebnffaaDoorTie
import Derived.SevenTiedAt
import Derived.Test.YtngieldaebnffaaDoorLaid
import Derived.Lay
import Derived.Test.YtngieldaebnffaaDoorSchIn
import Derived.Test.YtngieldaebnffaaDoorFLawP
import Derived.Test.YtngieldaebnffaaDoorShaped
import Derived.Lib.SmallJoins
import Derived.Test.YtngieldaebnffaaDoorLawPost
import Derived.OpenShut
import Derived.ShutString
import Derived.SizedLaws
import Derived.ProofKit
import Derived.Stop.Joined
namespace Go.Proofs.YtngieldaebnffaaDoor.methodPaths
open Go.ChangeShapes Go.WideShapes Go.ChangeAt Go.RowKit
open Go.ChangeMaps (open_string shut_string)

theorem own : ownKnob Tryd.prog.godebug = none := by kernel_rfl
theorem laid : laidOutB Tryd.prog = true := by kernel_rfl
set_option maxRecDepth 100000 in
theorem lifted (os : Os) (started : os.Started) (H : Type) (enc : TypeId × Value → H) :
    ReturnsInHanded {} Tryd.checked os 3 .any (fun w args => (Rows.methodPathsSpec.pre enc Tryd.prog Tryd.f3 Rows.methodPathsRow.domain false w args ∧ laidMetH Tryd.prog Rows.methodPathsRow.laid w) ∧ sizedMet enc Tryd.prog Tryd.f3 (OpenSpec.ofChange Rows.methodPathsSpec) false w args)
      (Rows.methodPathsSpec.post enc Tryd.prog Tryd.f3 false true false false) := by
  refine handed_and_shape (C := Tryd.checked) (X := fun w _ => laidMetH Tryd.prog Rows.methodPathsRow.laid w) (fun _ _ _ hh h => h.of_heap hh) own started (by kernel_rfl) Tryd.func3
    (ChangeSpec.witness_shaped (enc := enc) (C := Tryd.checked) (os := os) (X := fun w _ => laidMetH Tryd.prog Rows.methodPathsRow.laid w) false (World.laidAll Tryd.prog os Rows.methodPathsRow.laid) #[.agg #[.slice none 0 0, .slice none 0 0, .slice none 0 0]] 8 (World.laidAll_os _ _ _) (World.shaped_of_ZipB (by kernel_rfl) (by kernel_rfl)) (by kernel_rfl) (by kernel_rfl) (by kernel_rfl) (by rw [MakeChecks.laidMetH_plain _ _ _ (by kernel_rfl)]; exact laidMet_laidAll _ (by kernel_rfl) (by kernel_rfl))) ?_
  intro W base args ds gs before hval0 hW hsz hLL hSh
  have _hL : laidMet Tryd.prog Rows.methodPathsRow.laid W := by rw [MakeChecks.laidMetH_plain _ _ _ (by kernel_rfl)] at hLL; exact hLL
  have hval : ∀ (j : Nat) t v, Tryd.f3.params[j]? = some t → args[j]? = some v → Value.okWide Tryd.prog W .any base t v := hval0
  have hW' := hW
  obtain ⟨p, q, hA0, hV, rfl, hfz, hnd⟩ := hW
  have hA : DataW.TrodAll enc Tryd.prog W 0 (fun _ => true) true Tryd.f3.params.toList args.toList ds p := hA0
  rw [Tryd.params3] at hA hval
  obtain ⟨v0, vs0, d0, ds0, p0, q0, hargs, rfl, rfl, h0, r0⟩ := trodAll_cons hA
  obtain ⟨rfl, rfl, rfl⟩ := trodAll_nil r0
  obtain rfl : args = #[v0] := by cases args; simp_all
  obtain ⟨rfl, rfl⟩ := trodVars_none hV
  obtain ⟨cs0, rfl, hk0⟩ := Y.open_deep true Y.tok 9 (t := 26) rfl (by kernel_rfl) (fun _ => (fun m hm => by have hz := List.all_eq_true.1 hsz _ (DataW.weights_mem_each (j := 0) (t := 26) (d := d0) (by rw [Tryd.params3]; rfl) rfl m hm); exact of_decide_eq_true hz)) (hval 0 26 v0 rfl rfl) h0
  obtain ⟨xm, xe, x, nm0, cm, ne0, ce, cap, l, rfl, hS, hz⟩ := Y.sch_row (n := 0) hk0
  clear hA0 hval0
  refine (Y.paths_law xm xe x nm0 cm ne0 ce cap l W hS (fun v hv => hz rfl v hv) (mlen_of hSh)).mono fun e W' ⟨he, hb⟩ => ?_
  subst he
  exact ⟨_, rfl, law_post laid hW' hb (by kernel_rfl) (by kernel_rfl) rfl Tryd.underlying4 rfl rfl rfl⟩

theorem row_holds : Rows.MethodPathsSaid :=
  OpenClaim.holds_of_wide 3 Tryd.f3 rfl rfl rfl rfl rfl rfl rfl ⟨rfl, rfl, rfl, rfl, rfl⟩ rfl rfl rfl rfl rfl (by kernel_rfl) Tryd.func3 (by kernel_rfl)
    (of_decide_eq_true (by kernel_rfl)) (by unfold Func.isWrapper; first | (rw [if_pos (by decide +kernel)]; kernel_rfl) | (rw [if_neg (by decide +kernel)]; exact ⟨rfl, rfl⟩))
    (fun os started H enc _ => lifted os started H enc)
/-- THE STATEMENT: the tied card. -/
theorem proved : Rows.MethodPathsCardSaid :=
  Claim7.holds_tied_plain_at .later [] [.data, .pinned] true (true, "7ea7c3ef0a8ad0f6400f494aa72999b32d5ff276e3bc90e14c480e15f2d836c8") false
    row_holds (fun _ h => by cases h) (by kernel_rfl) (fun _ h => by cases h) methodPaths_row_tie rfl ⟨rfl, rfl⟩ (by kernel_rfl) rfl
    (fun f fn hf hfn => by
      obtain rfl : f = 3 := Option.some.inj ((show Tryd.prog.funcNamed "wireschema/wireschemalaw43.MethodPaths" = some 3 by kernel_rfl).symm.trans hf) |>.symm
      obtain rfl : fn = Tryd.f3 := (Option.some.inj (Tryd.func3.symm.trans hfn)).symm
      exact ⟨by kernel_rfl, fun j t ht => by
        rw [Tryd.params3] at ht
        have hm := Array.mem_of_getElem? ht
        have hall : (Tryd.f3.params.toList.all fun u => !Tryd.prog.wantsStandIn u) = true := by kernel_rfl
        rw [Tryd.params3] at hall
        exact (show Tryd.prog.wantsStandIn t = false by simpa using List.all_eq_true.1 hall t (by simpa using hm))⟩)
    (by kernel_rfl)
end Go.Proofs.YtngieldaebnffaaDoor.methodPaths
