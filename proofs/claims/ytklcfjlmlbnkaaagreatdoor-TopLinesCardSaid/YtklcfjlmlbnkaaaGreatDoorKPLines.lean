/- TopLines: whatever is lost, duplicated and reordered, what a server reads is a beginning of what its client has written, for every input; the card ties the listed package-level variables to the program text. -/
import Derived.Test.YtklcfjlmlbnkaaaGreatDoorRows
import Derived.Test.YtklcfjlmlbnkaaaGreatDoorCards
import Derived.Test.YtklcfjlmlbnkaaaGreatDoorTie
import Derived.SevenTiedAt
import Derived.Test.YtklcfjlmlbnkaaaGreatDoorKBunA
import Derived.Lay
import Derived.Test.YtklcfjlmlbnkaaaGreatDoorKBunX
import Derived.Test.YtklcfjlmlbnkaaaGreatDoorKBunN
import Derived.Lib.SmallJoins
import Derived.OpenShut
import Derived.ShutString
import Derived.SizedLaws
import Derived.ProofKit
import Derived.Stop.Joined
namespace Go.Proofs.YtklcfjlmlbnkaaaGreatDoor.topLines
open Go.ChangeShapes Go.WideShapes Go.ChangeAt Go.RowKit
open Go.ChangeMaps (open_string shut_string)

theorem own : ownKnob Tryz.prog.godebug = none := by kernel_rfl
theorem laid : laidOutB Tryz.prog = true := by kernel_rfl
set_option maxRecDepth 100000 in
theorem Gr (os : Os) (started : os.Started) (H : Type) (enc : TypeId × Value → H) :
    ReturnsInHanded {} Tryz.checked os 3 .any (fun w args => (Rows.topLinesSpec.pre enc Tryz.prog Tryz.f3 Rows.topLinesRow.domain false w args ∧ laidMetH Tryz.prog Rows.topLinesRow.laid w) ∧ sizedMet enc Tryz.prog Tryz.f3 (OpenSpec.ofChange Rows.topLinesSpec) false w args)
      (Rows.topLinesSpec.post enc Tryz.prog Tryz.f3 false true false false) := by
  refine nE (C := Tryz.checked) (X := fun w _ => laidMetH Tryz.prog Rows.topLinesRow.laid w) (fun _ _ _ hh h => h.of_heap hh) own started (by kernel_rfl) Tryz.func3
    (ChangeSpec.witness_shaped (enc := enc) (C := Tryz.checked) (os := os) (X := fun w _ => laidMetH Tryz.prog Rows.topLinesRow.laid w) false (World.laidAll Tryz.prog os Rows.topLinesRow.laid) #[.slice none 0 0, .slice none 0 0] 8 (World.laidAll_os _ _ _) (World.shaped_of_ZipB (by kernel_rfl) (by kernel_rfl)) (by kernel_rfl) (by kernel_rfl) (by kernel_rfl) (by rw [MakeChecks.laidMetH_plain _ _ _ (by kernel_rfl)]; exact laidMet_laidAll _ (by kernel_rfl) (by kernel_rfl))) ?_
  intro W base args ds gs before hval0 hW hsz hLL hSh
  have _hL : laidMet Tryz.prog Rows.topLinesRow.laid W := by rw [MakeChecks.laidMetH_plain _ _ _ (by kernel_rfl)] at hLL; exact hLL
  have hval : ∀ (j : Nat) t v, Tryz.f3.params[j]? = some t → args[j]? = some v → Value.okWide Tryz.prog W .any base t v := hval0
  have hW' := hW
  obtain ⟨p, q, hA0, hV, rfl, hfz, hnd⟩ := hW
  have hA : DataW.TrodAll enc Tryz.prog W 0 (fun _ => true) true Tryz.f3.params.toList args.toList ds p := hA0
  rw [Tryz.params3] at hA hval
  obtain ⟨v0, vs0, d0, ds0, p0, q0, hargs, rfl, rfl, h0, r0⟩ := trodAll_cons hA
  obtain ⟨v1, vs1, d1, ds1, p1, q1, rfl, rfl, rfl, h1, r1⟩ := trodAll_cons r0
  obtain ⟨rfl, rfl, rfl⟩ := trodAll_nil r1
  obtain rfl : args = #[v0, v1] := by cases args; simp_all
  obtain ⟨rfl, rfl⟩ := trodVars_none hV
  obtain ⟨x0, n0, cap0, rfl, l0, q0⟩ := Y.GA Y.af (t := 22) (ks := [.str]) rfl rfl rfl rfl (by kernel_rfl) (fun m hm => by have hz := List.all_eq_true.1 hsz _ (DataW.weights_mem_each (j := 0) (t := 22) (d := d0) (by rw [Tryz.params3]; rfl) rfl m hm); exact of_decide_eq_true hz) (hval 0 22 v0 rfl rfl) h0
  obtain ⟨x1, n1, cap1, rfl, l1, q1⟩ := Y.GA Y.af (t := 23) (ks := [.int .i64, .int .i64]) rfl rfl rfl rfl (by kernel_rfl) (fun m hm => by have hz := List.all_eq_true.1 hsz _ (DataW.weights_mem_each (j := 1) (t := 23) (d := d1) (by rw [Tryz.params3]; rfl) rfl m hm); exact of_decide_eq_true hz) (hval 1 23 v1 rfl rfl) h1
  clear hA0 hval0
  have hcap0 : n0 ≤ cap0 := Y.Hw Y.af (t := 22) rfl (hval 0 22 _ rfl rfl) h0 rfl
  obtain ⟨ls, rfl, hR⟩ := Y.GB q0
  obtain ⟨lh, rfl, hH⟩ := Y.GC q1
  refine (Y.EC x0 ls cap0 x1 lh cap1 W (ED hSh) hR hH hcap0).mono fun e W' ⟨he, hb⟩ => ?_
  subst he
  exact ⟨_, rfl, C6 laid hW' hb (by kernel_rfl) (by kernel_rfl) rfl Tryz.underlying4 rfl rfl rfl⟩

theorem Ad : Rows.TopLinesSaid :=
  OpenClaim.holds_of_wide 3 Tryz.f3 rfl rfl rfl rfl rfl rfl rfl ⟨rfl, rfl, rfl, rfl, rfl⟩ rfl rfl rfl rfl rfl (by kernel_rfl) Tryz.func3 (by kernel_rfl)
    (of_decide_eq_true (by kernel_rfl)) (by unfold Func.isWrapper; first | (rw [if_pos (by decide +kernel)]; kernel_rfl) | (rw [if_neg (by decide +kernel)]; exact ⟨rfl, rfl⟩))
    (fun os started H enc _ => Gr os started H enc)
/-- THE STATEMENT: the tied card. -/
theorem proved : Rows.TopLinesCardSaid :=
  Claim7.holds_tied_plain_at .later [] [.data, .pinned] true (true, "81528e34f09ccbfd9bfaab50bf8371489e69ed3664ba8a0a5ec2b38ed0365ee1") false
    Ad (fun _ h => by cases h) (by kernel_rfl) (fun _ h => by cases h) topLines_row_tie rfl ⟨rfl, rfl⟩ (by kernel_rfl) rfl
    (fun f fn hf hfn => by
      obtain rfl : f = 3 := Option.some.inj ((show Tryz.prog.funcNamed "wireschema/wireschematop.TopLines" = some 3 by kernel_rfl).symm.trans hf) |>.symm
      obtain rfl : fn = Tryz.f3 := (Option.some.inj (Tryz.func3.symm.trans hfn)).symm
      exact ⟨by kernel_rfl, fun j t ht => by
        rw [Tryz.params3] at ht
        have hm := Array.mem_of_getElem? ht
        have hall : (Tryz.f3.params.toList.all fun u => !Tryz.prog.wantsStandIn u) = true := by kernel_rfl
        rw [Tryz.params3] at hall
        exact (show Tryz.prog.wantsStandIn t = false by simpa using List.all_eq_true.1 hall t (by simpa using hm))⟩)
    (by kernel_rfl)
end Go.Proofs.YtklcfjlmlbnkaaaGreatDoor.topLines
