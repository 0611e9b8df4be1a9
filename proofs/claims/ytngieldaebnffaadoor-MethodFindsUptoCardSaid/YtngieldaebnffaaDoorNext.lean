/- The method next of a tally: what one event makes of it, and whether the event is legal; what lay in memory lies as it lay. -/
import Derived.Test.YtngieldaebnffaaDoorShapes
import Derived.Test.YtngieldaebnffaaDoorRegion
import Derived.StillTailTactics
import Derived.Deep.QuietTactic
import Derived.BigQuiet
import Derived.BigRegion
import Derived.Below
namespace Go.Proofs.YtngieldaebnffaaDoor
open Go.RowKit

def tal (s q r : Int) (en ed : Bool) : Value := .agg #[.int .i64 s, .int .i64 q, .int .i64 r, .bool en, .bool ed]
def must (s : Int) : Bool := s == 1 || s == 3
def nq (s q : Int) (ed : Bool) (c : Int) : Int := if !isS s || ed then q else if c = 113 then q + 1 else q
def nr (s r : Int) (ed : Bool) (c : Int) : Int := if !isS s || ed then r else if c = 114 then r + 1 else r
def nen (s : Int) (en ed : Bool) (c : Int) : Bool := if !isS s || ed then en else if c = 101 then true else en
def ned (s : Int) (ed : Bool) (c : Int) : Bool := if !isS s || ed then ed else if c = 115 then true else if c = 120 then true else ed
def nok (s q r : Int) (en ed : Bool) (c : Int) : Bool :=
  if !isS s || ed then false
  else if c = 113 then !en && roomS q (c2 s)
  else if c = 101 then !en && decide (c1 s ≤ q)
  else if c = 114 then roomS r (c4 s)
  else if c = 115 then decide (c1 s ≤ q) && decide (c3 s ≤ r) && (en || !must s)
  else if c = 120 then true else false

set_option maxHeartbeats 400000 in
set_option maxRecDepth 100000 in
theorem next_no (s q r : Int) (en ed : Bool) (c : Int) (w : World) (hs : isS s = false) :
    Calls Tryd.prog 44 #[.agg #[.int .i64 s, .int .i64 q, .int .i64 r, .bool en, .bool ed], .int .u8 c] w fun e w' => e = .returned (.tuple #[.agg #[.int .i64 s, .int .i64 (q), .int .i64 (r), .bool en, .bool ed], .bool (false)]) ∧ Below w.heap.size w w' := by
  go_enter Tryd.func44, Tryd.ntmps44
  go_wp2_with (first | (go_at_call 51; refine (shapedS _ _).mono ?_; rintro e w' ⟨rfl, rfl⟩) | (go_at_call 52; refine (counts _ _).mono ?_; rintro e w' ⟨rfl, rfl⟩))

  refine bodyPost_ret (v := .tuple #[.agg #[.int .i64 s, .int .i64 (q), .int .i64 (r), .bool en, .bool ed], .bool (false)]) (by simp [results, Tryd.results44, go_sem]) rfl ⟨rfl, ?_⟩
  exact (((Below.refl _ _).alloc (Nat.le_refl _) _).alloc (by simp) _)
set_option maxHeartbeats 400000 in
set_option maxRecDepth 100000 in
theorem next_end (s q r : Int) (en : Bool) (c : Int) (w : World) (hs : isS s = true) :
    Calls Tryd.prog 44 #[.agg #[.int .i64 s, .int .i64 q, .int .i64 r, .bool en, .bool true], .int .u8 c] w fun e w' => e = .returned (.tuple #[.agg #[.int .i64 s, .int .i64 (q), .int .i64 (r), .bool en, .bool true], .bool (false)]) ∧ Below w.heap.size w w' := by
  go_enter Tryd.func44, Tryd.ntmps44
  go_wp2_with (first | (go_at_call 51; refine (shapedS _ _).mono ?_; rintro e w' ⟨rfl, rfl⟩) | (go_at_call 52; refine (counts _ _).mono ?_; rintro e w' ⟨rfl, rfl⟩))

  refine bodyPost_ret (v := .tuple #[.agg #[.int .i64 s, .int .i64 (q), .int .i64 (r), .bool en, .bool true], .bool (false)]) (by simp [results, Tryd.results44, go_sem]) rfl ⟨rfl, ?_⟩
  exact (((Below.refl _ _).alloc (Nat.le_refl _) _).alloc (by simp) _)
set_option maxHeartbeats 400000 in
set_option maxRecDepth 100000 in
theorem next_q0 (s q r : Int) (w : World) (hs : isS s = true) (hq : 0 ≤ q) (hq2 : q ≤ 4611686018427387904) :
    Calls Tryd.prog 44 #[.agg #[.int .i64 s, .int .i64 q, .int .i64 r, .bool false, .bool false], .int .u8 113] w fun e w' => e = .returned (.tuple #[.agg #[.int .i64 s, .int .i64 (q + 1), .int .i64 (r), .bool false, .bool false], .bool (roomS q (c2 s))]) ∧ Below w.heap.size w w' := by
  go_enter Tryd.func44, Tryd.ntmps44
  go_wp2_with (first | (go_at_call 51; refine (shapedS _ _).mono ?_; rintro e w' ⟨rfl, rfl⟩) | (go_at_call 52; refine (counts _ _).mono ?_; rintro e w' ⟨rfl, rfl⟩))
  have hwr : IntKind.i64.wrap q = q := IntWalk.i64_in _ (by omega)
  refine wp_region_T (InvB (w.heap.size + 1) _) kf1 (by kernel_rfl) (by kernel_rfl) (InvB.refl _ _) ?_
  iterate 9 (first | (refine wpT_skip rfl (fun K hK => ?_); try go_simp; refine hK _ _ ?_; clear hK K) | (refine wpT_pure rfl rfl _ (fun w' hI => by unfold InvB at hI; go_simp; rfl) (fun K hK => ?_); try go_simp; refine hK _ _ ?_; clear hK K) | (refine wpT_pure rfl rfl _ (fun w' hI => by go_simp; rfl) (fun K hK => ?_); try go_simp; refine hK _ _ ?_; clear hK K) | (refine wpT_read rfl rfl rfl _ (by go_simp; rfl) (fun K hK => ?_); try go_simp; refine hK _ _ ?_; clear hK K))
  refine wpT_act rfl rfl rfl (fun K hK => ?_)
  go_simp
  go_at_call 53; refine (roomCall _ _ _).mono ?_; rintro e w' ⟨rfl, rfl⟩
  go_simp
  refine hK _ _ ⟨InvB.refl _ _, ?_⟩; clear hK K
  iterate 1 (first | (refine wpT_skip rfl (fun K hK => ?_); try go_simp; refine hK _ _ ?_; clear hK K) | (refine wpT_pure rfl rfl _ (fun w' hI => by unfold InvB at hI; go_simp; rfl) (fun K hK => ?_); try go_simp; refine hK _ _ ?_; clear hK K) | (refine wpT_pure rfl rfl _ (fun w' hI => by go_simp; rfl) (fun K hK => ?_); try go_simp; refine hK _ _ ?_; clear hK K) | (refine wpT_read rfl rfl rfl _ (by go_simp; rfl) (fun K hK => ?_); try go_simp; refine hK _ _ ?_; clear hK K))
  refine wpT_act rfl rfl rfl (fun K hK => ?_)
  go_simp
  refine hK _ _ ⟨InvB.realloc (by simp), ?_⟩; clear hK K
  iterate 1 (first | (refine wpT_skip rfl (fun K hK => ?_); try go_simp; refine hK _ _ ?_; clear hK K) | (refine wpT_pure rfl rfl _ (fun w' hI => by unfold InvB at hI; go_simp; rfl) (fun K hK => ?_); try go_simp; refine hK _ _ ?_; clear hK K) | (refine wpT_pure rfl rfl _ (fun w' hI => by go_simp; rfl) (fun K hK => ?_); try go_simp; refine hK _ _ ?_; clear hK K) | (refine wpT_read rfl rfl rfl _ (by go_simp; rfl) (fun K hK => ?_); try go_simp; refine hK _ _ ?_; clear hK K))
  refine wpT_nil ?_
  go_wp2

  refine bodyPost_ret (v := .tuple #[.agg #[.int .i64 s, .int .i64 (q + 1), .int .i64 (r), .bool false, .bool false], .bool (roomS q (c2 s))]) (by simp [results, Tryd.results44, go_sem]) rfl ⟨rfl, ?_⟩
  exact ((((Below.refl _ _).alloc (Nat.le_refl _) _).alloc (by simp) _).drew)
set_option maxHeartbeats 400000 in
set_option maxRecDepth 100000 in
theorem next_r (s q r : Int) (en : Bool) (w : World) (hs : isS s = true) (hr : 0 ≤ r) (hr2 : r ≤ 4611686018427387904) :
    Calls Tryd.prog 44 #[.agg #[.int .i64 s, .int .i64 q, .int .i64 r, .bool en, .bool false], .int .u8 114] w fun e w' => e = .returned (.tuple #[.agg #[.int .i64 s, .int .i64 (q), .int .i64 (r + 1), .bool en, .bool false], .bool (roomS r (c4 s))]) ∧ Below w.heap.size w w' := by
  go_enter Tryd.func44, Tryd.ntmps44
  go_wp2_with (first | (go_at_call 51; refine (shapedS _ _).mono ?_; rintro e w' ⟨rfl, rfl⟩) | (go_at_call 52; refine (counts _ _).mono ?_; rintro e w' ⟨rfl, rfl⟩))
  have hwr : IntKind.i64.wrap r = r := IntWalk.i64_in _ (by omega)
  refine wp_region_T (InvB (w.heap.size + 1) _) kf1 (by kernel_rfl) (by kernel_rfl) (InvB.refl _ _) ?_
  iterate 5 (first | (refine wpT_skip rfl (fun K hK => ?_); try go_simp; refine hK _ _ ?_; clear hK K) | (refine wpT_pure rfl rfl _ (fun w' hI => by unfold InvB at hI; go_simp; rfl) (fun K hK => ?_); try go_simp; refine hK _ _ ?_; clear hK K) | (refine wpT_pure rfl rfl _ (fun w' hI => by go_simp; rfl) (fun K hK => ?_); try go_simp; refine hK _ _ ?_; clear hK K) | (refine wpT_read rfl rfl rfl _ (by go_simp; rfl) (fun K hK => ?_); try go_simp; refine hK _ _ ?_; clear hK K))
  refine wpT_act rfl rfl rfl (fun K hK => ?_)
  go_simp
  go_at_call 53; refine (roomCall _ _ _).mono ?_; rintro e w' ⟨rfl, rfl⟩
  go_simp
  refine hK _ _ ⟨InvB.refl _ _, ?_⟩; clear hK K
  iterate 0 (first | (refine wpT_skip rfl (fun K hK => ?_); try go_simp; refine hK _ _ ?_; clear hK K) | (refine wpT_pure rfl rfl _ (fun w' hI => by unfold InvB at hI; go_simp; rfl) (fun K hK => ?_); try go_simp; refine hK _ _ ?_; clear hK K) | (refine wpT_pure rfl rfl _ (fun w' hI => by go_simp; rfl) (fun K hK => ?_); try go_simp; refine hK _ _ ?_; clear hK K) | (refine wpT_read rfl rfl rfl _ (by go_simp; rfl) (fun K hK => ?_); try go_simp; refine hK _ _ ?_; clear hK K))
  refine wpT_act rfl rfl rfl (fun K hK => ?_)
  go_simp
  refine hK _ _ ⟨InvB.realloc (by simp), ?_⟩; clear hK K
  iterate 1 (first | (refine wpT_skip rfl (fun K hK => ?_); try go_simp; refine hK _ _ ?_; clear hK K) | (refine wpT_pure rfl rfl _ (fun w' hI => by unfold InvB at hI; go_simp; rfl) (fun K hK => ?_); try go_simp; refine hK _ _ ?_; clear hK K) | (refine wpT_pure rfl rfl _ (fun w' hI => by go_simp; rfl) (fun K hK => ?_); try go_simp; refine hK _ _ ?_; clear hK K) | (refine wpT_read rfl rfl rfl _ (by go_simp; rfl) (fun K hK => ?_); try go_simp; refine hK _ _ ?_; clear hK K))
  refine wpT_nil ?_
  go_wp2

  refine bodyPost_ret (v := .tuple #[.agg #[.int .i64 s, .int .i64 (q), .int .i64 (r + 1), .bool en, .bool false], .bool (roomS r (c4 s))]) (by simp [results, Tryd.results44, go_sem]) rfl ⟨rfl, ?_⟩
  exact ((((Below.refl _ _).alloc (Nat.le_refl _) _).alloc (by simp) _).drew)
set_option maxHeartbeats 400000 in
set_option maxRecDepth 100000 in
theorem next_q1 (s q r : Int) (w : World) (hs : isS s = true) (hq : 0 ≤ q) (hq2 : q ≤ 4611686018427387904) :
    Calls Tryd.prog 44 #[.agg #[.int .i64 s, .int .i64 q, .int .i64 r, .bool true, .bool false], .int .u8 113] w fun e w' => e = .returned (.tuple #[.agg #[.int .i64 s, .int .i64 (q + 1), .int .i64 (r), .bool true, .bool false], .bool (false)]) ∧ Below w.heap.size w w' := by
  go_enter Tryd.func44, Tryd.ntmps44
  go_wp2_with (first | (go_at_call 51; refine (shapedS _ _).mono ?_; rintro e w' ⟨rfl, rfl⟩) | (go_at_call 52; refine (counts _ _).mono ?_; rintro e w' ⟨rfl, rfl⟩))
  refine wp_region_T (InvB (w.heap.size + 1) _) kf1 (by kernel_rfl) (by kernel_rfl) (InvB.refl _ _) ?_
  iterate 11 (first | (refine wpT_skip rfl (fun K hK => ?_); try go_simp; refine hK _ _ ?_; clear hK K) | (refine wpT_pure rfl rfl _ (fun w' hI => by unfold InvB at hI; go_simp; rfl) (fun K hK => ?_); try go_simp; refine hK _ _ ?_; clear hK K) | (refine wpT_pure rfl rfl _ (fun w' hI => by go_simp; rfl) (fun K hK => ?_); try go_simp; refine hK _ _ ?_; clear hK K) | (refine wpT_read rfl rfl rfl _ (by go_simp; rfl) (fun K hK => ?_); try go_simp; refine hK _ _ ?_; clear hK K))
  refine wpT_act rfl rfl rfl (fun K hK => ?_)
  go_simp
  refine hK _ _ ⟨InvB.realloc (by simp), ?_⟩; clear hK K
  iterate 1 (first | (refine wpT_skip rfl (fun K hK => ?_); try go_simp; refine hK _ _ ?_; clear hK K) | (refine wpT_pure rfl rfl _ (fun w' hI => by unfold InvB at hI; go_simp; rfl) (fun K hK => ?_); try go_simp; refine hK _ _ ?_; clear hK K) | (refine wpT_pure rfl rfl _ (fun w' hI => by go_simp; rfl) (fun K hK => ?_); try go_simp; refine hK _ _ ?_; clear hK K) | (refine wpT_read rfl rfl rfl _ (by go_simp; rfl) (fun K hK => ?_); try go_simp; refine hK _ _ ?_; clear hK K))
  refine wpT_nil ?_
  go_wp2

  refine bodyPost_ret (v := .tuple #[.agg #[.int .i64 s, .int .i64 (q + 1), .int .i64 (r), .bool true, .bool false], .bool (false)]) (by simp [results, Tryd.results44, go_sem]) rfl ⟨rfl, ?_⟩
  exact ((((Below.refl _ _).alloc (Nat.le_refl _) _).alloc (by simp) _).drew)
set_option maxHeartbeats 400000 in
set_option maxRecDepth 100000 in
theorem next_e0 (s q r : Int) (w : World) (hs : isS s = true) (h1 : decide (c1 s ≤ q) = true) :
    Calls Tryd.prog 44 #[.agg #[.int .i64 s, .int .i64 q, .int .i64 r, .bool false, .bool false], .int .u8 101] w fun e w' => e = .returned (.tuple #[.agg #[.int .i64 s, .int .i64 (q), .int .i64 (r), .bool true, .bool false], .bool (true)]) ∧ Below w.heap.size w w' := by
  go_enter Tryd.func44, Tryd.ntmps44
  go_wp2_with (first | (go_at_call 51; refine (shapedS _ _).mono ?_; rintro e w' ⟨rfl, rfl⟩) | (go_at_call 52; refine (counts _ _).mono ?_; rintro e w' ⟨rfl, rfl⟩))

  refine bodyPost_ret (v := .tuple #[.agg #[.int .i64 s, .int .i64 (q), .int .i64 (r), .bool true, .bool false], .bool (true)]) (by simp [results, Tryd.results44, go_sem]) rfl ⟨rfl, ?_⟩
  exact (((Below.refl _ _).alloc (Nat.le_refl _) _).alloc (by simp) _)
set_option maxHeartbeats 400000 in
set_option maxRecDepth 100000 in
theorem next_e0n (s q r : Int) (w : World) (hs : isS s = true) (h1 : decide (c1 s ≤ q) = false) :
    Calls Tryd.prog 44 #[.agg #[.int .i64 s, .int .i64 q, .int .i64 r, .bool false, .bool false], .int .u8 101] w fun e w' => e = .returned (.tuple #[.agg #[.int .i64 s, .int .i64 (q), .int .i64 (r), .bool true, .bool false], .bool (false)]) ∧ Below w.heap.size w w' := by
  go_enter Tryd.func44, Tryd.ntmps44
  go_wp2_with (first | (go_at_call 51; refine (shapedS _ _).mono ?_; rintro e w' ⟨rfl, rfl⟩) | (go_at_call 52; refine (counts _ _).mono ?_; rintro e w' ⟨rfl, rfl⟩))

  refine bodyPost_ret (v := .tuple #[.agg #[.int .i64 s, .int .i64 (q), .int .i64 (r), .bool true, .bool false], .bool (false)]) (by simp [results, Tryd.results44, go_sem]) rfl ⟨rfl, ?_⟩
  exact (((Below.refl _ _).alloc (Nat.le_refl _) _).alloc (by simp) _)
set_option maxHeartbeats 400000 in
set_option maxRecDepth 100000 in
theorem next_e1 (s q r : Int) (w : World) (hs : isS s = true) :
    Calls Tryd.prog 44 #[.agg #[.int .i64 s, .int .i64 q, .int .i64 r, .bool true, .bool false], .int .u8 101] w fun e w' => e = .returned (.tuple #[.agg #[.int .i64 s, .int .i64 (q), .int .i64 (r), .bool true, .bool false], .bool (false)]) ∧ Below w.heap.size w w' := by
  go_enter Tryd.func44, Tryd.ntmps44
  go_wp2_with (first | (go_at_call 51; refine (shapedS _ _).mono ?_; rintro e w' ⟨rfl, rfl⟩) | (go_at_call 52; refine (counts _ _).mono ?_; rintro e w' ⟨rfl, rfl⟩))

  refine bodyPost_ret (v := .tuple #[.agg #[.int .i64 s, .int .i64 (q), .int .i64 (r), .bool true, .bool false], .bool (false)]) (by simp [results, Tryd.results44, go_sem]) rfl ⟨rfl, ?_⟩
  exact (((Below.refl _ _).alloc (Nat.le_refl _) _).alloc (by simp) _)
set_option maxHeartbeats 400000 in
set_option maxRecDepth 100000 in
theorem next_x (s q r : Int) (en : Bool) (w : World) (hs : isS s = true) :
    Calls Tryd.prog 44 #[.agg #[.int .i64 s, .int .i64 q, .int .i64 r, .bool en, .bool false], .int .u8 120] w fun e w' => e = .returned (.tuple #[.agg #[.int .i64 s, .int .i64 (q), .int .i64 (r), .bool en, .bool true], .bool (true)]) ∧ Below w.heap.size w w' := by
  go_enter Tryd.func44, Tryd.ntmps44
  go_wp2_with (first | (go_at_call 51; refine (shapedS _ _).mono ?_; rintro e w' ⟨rfl, rfl⟩) | (go_at_call 52; refine (counts _ _).mono ?_; rintro e w' ⟨rfl, rfl⟩))

  refine bodyPost_ret (v := .tuple #[.agg #[.int .i64 s, .int .i64 (q), .int .i64 (r), .bool en, .bool true], .bool (true)]) (by simp [results, Tryd.results44, go_sem]) rfl ⟨rfl, ?_⟩
  exact (((Below.refl _ _).alloc (Nat.le_refl _) _).alloc (by simp) _)
set_option maxHeartbeats 400000 in
set_option maxRecDepth 100000 in
theorem next_o (s q r : Int) (en : Bool) (c : Int) (w : World) (hs : isS s = true) (hc : ¬ (c = 113 ∨ c = 101 ∨ c = 114 ∨ c = 115 ∨ c = 120)) :
    Calls Tryd.prog 44 #[.agg #[.int .i64 s, .int .i64 q, .int .i64 r, .bool en, .bool false], .int .u8 c] w fun e w' => e = .returned (.tuple #[.agg #[.int .i64 s, .int .i64 (q), .int .i64 (r), .bool en, .bool false], .bool (false)]) ∧ Below w.heap.size w w' := by
  have e1 : (c == 113) = false := by simp; omega
  have e2 : (c == 101) = false := by simp; omega
  have e3 : (c == 114) = false := by simp; omega
  have e4 : (c == 115) = false := by simp; omega
  have e5 : (c == 120) = false := by simp; omega
  clear hc
  go_enter Tryd.func44, Tryd.ntmps44
  go_wp2_with (first | (go_at_call 51; refine (shapedS _ _).mono ?_; rintro e w' ⟨rfl, rfl⟩) | (go_at_call 52; refine (counts _ _).mono ?_; rintro e w' ⟨rfl, rfl⟩))

  refine bodyPost_ret (v := .tuple #[.agg #[.int .i64 s, .int .i64 (q), .int .i64 (r), .bool en, .bool false], .bool (false)]) (by simp [results, Tryd.results44, go_sem]) rfl ⟨rfl, ?_⟩
  exact (((Below.refl _ _).alloc (Nat.le_refl _) _).alloc (by simp) _)
def nokS (s q r : Int) (en : Bool) : Bool := decide (c1 s ≤ q) && decide (c3 s ≤ r) && (en || !must s)
set_option maxHeartbeats 1000000 in
set_option maxRecDepth 100000 in
theorem next_s (s q r : Int) (en : Bool) (w : World) (hs : isS s = true) :
    Calls Tryd.prog 44 #[.agg #[.int .i64 s, .int .i64 q, .int .i64 r, .bool en, .bool false], .int .u8 115] w fun e w' => e = .returned (.tuple #[.agg #[.int .i64 s, .int .i64 q, .int .i64 r, .bool en, .bool true], .bool (nokS s q r en)]) ∧ Below w.heap.size w w' := by
  rcases isS_cases hs with rfl | rfl | rfl | rfl
  all_goals
   cases en
   all_goals
    go_enter Tryd.func44, Tryd.ntmps44
    go_wp2_with (first | (go_at_call 51; refine (shapedS _ _).mono ?_; rintro e w' ⟨rfl, rfl⟩) | (go_at_call 52; refine (counts _ _).mono ?_; rintro e w' ⟨rfl, rfl⟩))
    all_goals
     refine bodyPost_ret (v := .tuple #[.agg #[.int .i64 _, .int .i64 q, .int .i64 r, .bool _, .bool true], .bool (nokS _ q r _)]) ?_ rfl ⟨rfl, (((Below.refl _ _).alloc (Nat.le_refl _) _).alloc (by simp) _)⟩
     simp [results, Tryd.results44, go_sem, nokS, must]
     try omega
set_option maxRecDepth 100000 in
theorem next_any (s q r : Int) (en ed : Bool) (c : Int) (w : World) (hq : 0 ≤ q) (hq2 : q ≤ 4611686018427387904) (hr : 0 ≤ r) (hr2 : r ≤ 4611686018427387904) :
    Calls Tryd.prog 44 #[tal s q r en ed, .int .u8 c] w fun e w' => e = .returned (.tuple #[tal s (nq s q ed c) (nr s r ed c) (nen s en ed c) (ned s ed c), .bool (nok s q r en ed c)]) ∧ Below w.heap.size w w' := by
  unfold tal nq nr nen ned nok
  cases hs : isS s with
  | false => simpa using next_no s q r en ed c w hs
  | true =>
    cases ed with
    | true => simpa using next_end s q r en c w hs
    | false =>
      by_cases h1 : c = 113
      · subst h1
        cases en with
        | false => simpa using next_q0 s q r w hs hq hq2
        | true => simpa using next_q1 s q r w hs hq hq2
      by_cases h2 : c = 101
      · subst h2
        cases en with
        | false =>
          cases hd : decide (c1 s ≤ q) with
          | true => simpa using next_e0 s q r w hs hd
          | false => simpa using next_e0n s q r w hs hd
        | true => simpa using next_e1 s q r w hs
      by_cases h3 : c = 114
      · subst h3; simpa using next_r s q r en w hs hr hr2
      by_cases h4 : c = 115
      · subst h4; simpa [nokS] using next_s s q r en w hs
      by_cases h5 : c = 120
      · subst h5; simpa using next_x s q r en w hs
      simpa [h1, h2, h3, h4, h5] using next_o s q r en c w hs (by omega)
end Go.Proofs.YtngieldaebnffaaDoor
