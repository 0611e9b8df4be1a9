/- FrameSeals: a frame whose data and checksum were changed, within four consecutive bytes, is not read (the law itself asks nothing beyond 20000 bytes of data); the card ties the listed package-level variables to the program text. -/
import Derived.Test.YtpfkddbhpoeknaaDoorRows
import Derived.Test.YtpfkddbhpoeknaaDoorCards
import Derived.Test.YtpfkddbhpoeknaaDoorTie
import Derived.SevenTiedAt
import Derived.Test.YtpfkddbhpoeknaaDoorLaid
import Derived.Lay
import Derived.Test.YtpfkddbhpoeknaaDoorLawSeals
import Derived.Test.YtpfkddbhpoeknaaDoorShaped
import Derived.Lib.SmallJoins
import Derived.Test.YtpfkddbhpoeknaaDoorLawPost
import Derived.OpenShut
import Derived.ShutString
import Derived.SizedLaws
import Derived.ProofKit
import Derived.Stop.Joined
namespace Go.Proofs.YtpfkddbhpoeknaaDoor.frameSeals
open Go.ChangeShapes Go.WideShapes Go.ChangeAt Go.RowKit
open Go.ChangeMaps (open_string shut_string)

theorem own : ownKnob Tryd.prog.godebug = none := by kernel_rfl
theorem laid : laidOutB Tryd.prog = true := by kernel_rfl
set_option maxRecDepth 100000 in
theorem lifted (os : Os) (started : os.Started) (H : Type) (enc : TypeId × Value → H) :
    ReturnsInHanded {} Tryd.checked os 5 .any (fun w args => (Rows.frameSealsSpec.pre enc Tryd.prog Tryd.f5 Rows.frameSealsRow.domain false w args ∧ laidMetH Tryd.prog Rows.frameSealsRow.laid w) ∧ sizedMet enc Tryd.prog Tryd.f5 (OpenSpec.ofChange Rows.frameSealsSpec) false w args)
      (Rows.frameSealsSpec.post enc Tryd.prog Tryd.f5 false true false false) := by
  refine handed_and_shape (C := Tryd.checked) (X := fun w _ => laidMetH Tryd.prog Rows.frameSealsRow.laid w) (fun _ _ _ hh h => h.of_heap hh) own started (by kernel_rfl) Tryd.func5
    (ChangeSpec.witness_shaped (enc := enc) (C := Tryd.checked) (os := os) (X := fun w _ => laidMetH Tryd.prog Rows.frameSealsRow.laid w) false (World.laidAll Tryd.prog os Rows.frameSealsRow.laid) #[.agg #[.int .i64 0, .int .i64 0, .int .i64 0, .string ByteArray.empty], .int .i64 0, .int .u32 0] 8 (World.laidAll_os _ _ _) (World.shaped_of_ZipB (by kernel_rfl) (by kernel_rfl)) (by kernel_rfl) (by kernel_rfl) (by kernel_rfl) (by rw [MakeChecks.laidMetH_plain _ _ _ (by kernel_rfl)]; exact laidMet_laidAll _ (by kernel_rfl) (by kernel_rfl))) ?_
  intro W base args ds gs before hval0 hW hsz hLL hSh
  have _hL : laidMet Tryd.prog Rows.frameSealsRow.laid W := by rw [MakeChecks.laidMetH_plain _ _ _ (by kernel_rfl)] at hLL; exact hLL
  have hval : ∀ (j : Nat) t v, Tryd.f5.params[j]? = some t → args[j]? = some v → Value.okWide Tryd.prog W .any base t v := hval0
  have hW' := hW
  obtain ⟨p, q, hA0, hV, rfl, hfz, hnd⟩ := hW
  have hA : DataW.TrodAll enc Tryd.prog W 0 (fun _ => true) true Tryd.f5.params.toList args.toList ds p := hA0
  rw [Tryd.params5] at hA hval
  obtain ⟨v0, vs0, d0, ds0, p0, q0, hargs, rfl, rfl, h0, r0⟩ := trodAll_cons hA
  obtain ⟨v1, vs1, d1, ds1, p1, q1, rfl, rfl, rfl, h1, r1⟩ := trodAll_cons r0
  obtain ⟨v2, vs2, d2, ds2, p2, q2, rfl, rfl, rfl, h2, r2⟩ := trodAll_cons r1
  obtain ⟨rfl, rfl, rfl⟩ := trodAll_nil r2
  obtain rfl : args = #[v0, v1, v2] := by cases args; simp_all
  obtain ⟨rfl, rfl⟩ := trodVars_none hV
  obtain ⟨b00, b01, b02, b03, y00, y01, y02, y03, m0, rfl, rfl, rfl, t00, t01, t02, t03⟩ := Joins.open_agg4 Tryd.underlying24 (by kernel_rfl) (by kernel_rfl) (hval 0 24 v0 rfl rfl) h0
  obtain ⟨c00, e00, _, k00⟩ := DataW.trod_int Tryd.underlying3 t00
  obtain ⟨c01, e01, _, k01⟩ := DataW.trod_int Tryd.underlying3 t01
  obtain ⟨c02, e02, _, k02⟩ := DataW.trod_int Tryd.underlying3 t02
  obtain ⟨s0, e03, x03, k03⟩ := DataW.trod_string Tryd.underlying9 t03
  obtain rfl : b00 = .int .i64 c00 := by simpa using e00
  obtain rfl : b01 = .int .i64 c01 := by simpa using e01
  obtain rfl : b02 = .int .i64 c02 := by simpa using e02
  obtain rfl : b03 = .string s0 := by simpa using e03
  obtain ⟨a1, rfl, rfl, rfl, w1⟩ := open_int Tryd.underlying3 (hval 1 3 v1 rfl rfl) h1
  have u1 : (-9223372036854775808 : Int) ≤ a1 ∧ a1 ≤ 9223372036854775807 := by simpa [Lit.wf, IntKind.min, IntKind.max, IntKind.signed, IntKind.bits] using w1
  obtain ⟨a2, rfl, rfl, rfl, w2⟩ := open_int Tryd.underlying39 (hval 2 39 v2 rfl rfl) h2
  obtain ⟨n2, rfl, u2⟩ : ∃ n : Nat, a2 = (n : Int) ∧ n < 4294967296 := by
    have h1 : (0 : Int) ≤ a2 ∧ a2 ≤ 4294967295 := by simpa [Lit.wf, IntKind.min, IntKind.max, IntKind.signed, IntKind.bits] using w2
    exact ⟨a2.toNat, by omega, by omega⟩
  clear hA0 hval0
  refine (seals_law ⟨c00, c01, c02, s0⟩ a1 n2 W (mlen_of hSh) u2).mono fun e W' ⟨he, hb⟩ => ?_
  subst he
  exact ⟨_, rfl, law_post laid hW' hb (by kernel_rfl) (by kernel_rfl) rfl Tryd.underlying4 rfl rfl rfl⟩

theorem row_holds : Rows.FrameSealsSaid :=
  OpenClaim.holds_of_wide 5 Tryd.f5 rfl rfl rfl rfl rfl rfl rfl ⟨rfl, rfl, rfl, rfl, rfl⟩ rfl rfl rfl rfl rfl (by kernel_rfl) Tryd.func5 (by kernel_rfl)
    (of_decide_eq_true (by kernel_rfl)) (by unfold Func.isWrapper; first | (rw [if_pos (by decide +kernel)]; kernel_rfl) | (rw [if_neg (by decide +kernel)]; exact ⟨rfl, rfl⟩))
    (fun os started H enc _ => lifted os started H enc)
/-- THE STATEMENT: the tied card. -/
theorem proved : Rows.FrameSealsCardSaid :=
  Claim7.holds_tied_plain_at .later [] [.data, .pinned] true (true, "56eaf4a58972bbfe2746a04a5f8490ca2798f890f0ae515126b1a9d72b72d0db") false
    row_holds (fun _ h => by cases h) (by kernel_rfl) (fun _ h => by cases h) frameSeals_row_tie rfl ⟨rfl, rfl⟩ (by kernel_rfl) rfl
    (fun f fn hf hfn => by
      obtain rfl : f = 5 := Option.some.inj ((show Tryd.prog.funcNamed "wireschema/wireschemalaw44.FrameSeals" = some 5 by kernel_rfl).symm.trans hf) |>.symm
      obtain rfl : fn = Tryd.f5 := (Option.some.inj (Tryd.func5.symm.trans hfn)).symm
      exact ⟨by kernel_rfl, fun j t ht => by
        rw [Tryd.params5] at ht
        have hm := Array.mem_of_getElem? ht
        have hall : (Tryd.f5.params.toList.all fun u => !Tryd.prog.wantsStandIn u) = true := by kernel_rfl
        rw [Tryd.params5] at hall
        exact (show Tryd.prog.wantsStandIn t = false by simpa using List.all_eq_true.1 hall t (by simpa using hm))⟩)
    (by kernel_rfl)
end Go.Proofs.YtpfkddbhpoeknaaDoor.frameSeals
