/- StreamOnce: a stream gets exactly one status, and no message is counted after an end (the law itself asks nothing beyond 60 frames with data of at most 500 bytes); the card ties the listed package-level variables to the program text. -/
import Derived.Test.YtcedpdofjbaciaaDoorRows
import Derived.Test.YtcedpdofjbaciaaDoorCards
import Derived.Test.YtcedpdofjbaciaaDoorTie
import Derived.SevenTiedAt
import Derived.Test.YtcedpdofjbaciaaDoorLaid
import Derived.Lay
import Derived.Test.YtcedpdofjbaciaaDoorOnce46
import Derived.Test.YtcedpdofjbaciaaDoorIn46
import Derived.Test.YtcedpdofjbaciaaDoorShaped
import Derived.Lib.SmallJoins
import Derived.Test.YtcedpdofjbaciaaDoorLawPost
import Derived.OpenShut
import Derived.ShutString
import Derived.SizedLaws
import Derived.ProofKit
import Derived.Stop.Joined
namespace Go.Proofs.YtcedpdofjbaciaaDoor.streamOnce
open Go.ChangeShapes Go.WideShapes Go.ChangeAt Go.RowKit
open Go.ChangeMaps (open_string shut_string)

theorem own : ownKnob Tryd.prog.godebug = none := by kernel_rfl
theorem laid : laidOutB Tryd.prog = true := by kernel_rfl
set_option maxRecDepth 100000 in
theorem lifted (os : Os) (started : os.Started) (H : Type) (enc : TypeId × Value → H) :
    ReturnsInHanded {} Tryd.checked os 6 .any (fun w args => (Rows.streamOnceSpec.pre enc Tryd.prog Tryd.f6 Rows.streamOnceRow.domain false w args ∧ laidMetH Tryd.prog Rows.streamOnceRow.laid w) ∧ sizedMet enc Tryd.prog Tryd.f6 (OpenSpec.ofChange Rows.streamOnceSpec) false w args)
      (Rows.streamOnceSpec.post enc Tryd.prog Tryd.f6 false true false false) := by
  refine handed_and_shape (C := Tryd.checked) (X := fun w _ => laidMetH Tryd.prog Rows.streamOnceRow.laid w) (fun _ _ _ hh h => h.of_heap hh) own started (by kernel_rfl) Tryd.func6
    (ChangeSpec.witness_shaped (enc := enc) (C := Tryd.checked) (os := os) (X := fun w _ => laidMetH Tryd.prog Rows.streamOnceRow.laid w) false (World.laidAll Tryd.prog os Rows.streamOnceRow.laid) #[.agg #[.int .i64 0, .int .i64 0, .int .i64 0], .slice none 0 0, .slice none 0 0] 8 (World.laidAll_os _ _ _) (World.shaped_of_ZipB (by kernel_rfl) (by kernel_rfl)) (by kernel_rfl) (by kernel_rfl) (by kernel_rfl) (by rw [MakeChecks.laidMetH_plain _ _ _ (by kernel_rfl)]; exact laidMet_laidAll _ (by kernel_rfl) (by kernel_rfl))) ?_
  intro W base args ds gs before hval0 hW hsz hLL hSh
  have _hL : laidMet Tryd.prog Rows.streamOnceRow.laid W := by rw [MakeChecks.laidMetH_plain _ _ _ (by kernel_rfl)] at hLL; exact hLL
  have hval : ∀ (j : Nat) t v, Tryd.f6.params[j]? = some t → args[j]? = some v → Value.okWide Tryd.prog W .any base t v := hval0
  have hW' := hW
  obtain ⟨p, q, hA0, hV, rfl, hfz, hnd⟩ := hW
  have hA : DataW.TrodAll enc Tryd.prog W 0 (fun _ => true) true Tryd.f6.params.toList args.toList ds p := hA0
  rw [Tryd.params6] at hA hval
  obtain ⟨v0, vs0, d0, ds0, p0, q0, hargs, rfl, rfl, h0, r0⟩ := trodAll_cons hA
  obtain ⟨v1, vs1, d1, ds1, p1, q1, rfl, rfl, rfl, h1, r1⟩ := trodAll_cons r0
  obtain ⟨v2, vs2, d2, ds2, p2, q2, rfl, rfl, rfl, h2, r2⟩ := trodAll_cons r1
  obtain ⟨rfl, rfl, rfl⟩ := trodAll_nil r2
  obtain rfl : args = #[v0, v1, v2] := by cases args; simp_all
  obtain ⟨rfl, rfl⟩ := trodVars_none hV
  obtain ⟨cs0, rfl, hk0_0⟩ := open_arr tok (t := 43) (ks := [.int .i64, .int .i64, .int .i64]) rfl rfl rfl rfl rfl rfl (hval 0 43 v0 rfl rfl) h0
  obtain ⟨_, _, rfl, ⟨c0_0, rfl, k0_0⟩, hk0_1⟩ := okL_cons hk0_0
  obtain ⟨_, _, rfl, ⟨c0_1, rfl, k0_1⟩, hk0_2⟩ := okL_cons hk0_1
  obtain ⟨_, _, rfl, ⟨c0_2, rfl, k0_2⟩, hk0_3⟩ := okL_cons hk0_2
  obtain rfl := okL_nil hk0_3
  obtain ⟨x1, n1, cap1, rfl, l1, q1⟩ := open_rows tok (t := 36) (ks := [.int .i64, .int .i64, .int .i64, .str]) rfl rfl rfl rfl (hval 1 36 v1 rfl rfl) h1
  obtain ⟨x2, n2, cap2, rfl, l2, q2⟩ := open_rows tok (t := 37) (ks := [.bool]) rfl rfl rfl rfl (hval 2 37 v2 rfl rfl) h2
  clear hA0 hval0
  obtain ⟨fs, rfl, hF⟩ := frs_of_rows q1
  obtain ⟨bs, rfl, hB⟩ := bools_of_rows q2
  refine (once_law c0_0 c0_1 c0_2 fs bs x1 x2 cap1 cap2 W (mlen_of hSh) hF hB).mono fun e W' ⟨he, hb⟩ => ?_
  subst he
  exact ⟨_, rfl, law_post laid hW' hb (by kernel_rfl) (by kernel_rfl) rfl Tryd.underlying4 rfl rfl rfl⟩

theorem row_holds : Rows.StreamOnceSaid :=
  OpenClaim.holds_of_wide 6 Tryd.f6 rfl rfl rfl rfl rfl rfl rfl ⟨rfl, rfl, rfl, rfl, rfl⟩ rfl rfl rfl rfl rfl (by kernel_rfl) Tryd.func6 (by kernel_rfl)
    (of_decide_eq_true (by kernel_rfl)) (by unfold Func.isWrapper; first | (rw [if_pos (by decide +kernel)]; kernel_rfl) | (rw [if_neg (by decide +kernel)]; exact ⟨rfl, rfl⟩))
    (fun os started H enc _ => lifted os started H enc)
/-- THE STATEMENT: the tied card. -/
theorem proved : Rows.StreamOnceCardSaid :=
  Claim7.holds_tied_plain_at .later [] [.data, .pinned] true (true, "c257a4f48c91a38a55fa5499f9fc25b8071b107ca1e5b2cec09694b1ff06e099") false
    row_holds (fun _ h => by cases h) (by kernel_rfl) (fun _ h => by cases h) streamOnce_row_tie rfl ⟨rfl, rfl⟩ (by kernel_rfl) rfl
    (fun f fn hf hfn => by
      obtain rfl : f = 6 := Option.some.inj ((show Tryd.prog.funcNamed "wireschema/wireschemalaw46.StreamOnce" = some 6 by kernel_rfl).symm.trans hf) |>.symm
      obtain rfl : fn = Tryd.f6 := (Option.some.inj (Tryd.func6.symm.trans hfn)).symm
      exact ⟨by kernel_rfl, fun j t ht => by
        rw [Tryd.params6] at ht
        have hm := Array.mem_of_getElem? ht
        have hall : (Tryd.f6.params.toList.all fun u => !Tryd.prog.wantsStandIn u) = true := by kernel_rfl
        rw [Tryd.params6] at hall
        exact (show Tryd.prog.wantsStandIn t = false by simpa using List.all_eq_true.1 hall t (by simpa using hm))⟩)
    (by kernel_rfl)
end Go.Proofs.YtcedpdofjbaciaaDoor.streamOnce
