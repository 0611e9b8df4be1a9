/- The small functions on shapes of package method and of its reference: what each call returns; they leave memory alone. -/
import Derived.Test.YtmdkfbmpenohiaaDoorChecked
import Derived.WalkKit
import Derived.WalkSpells
import Derived.WalkLawsBesides
namespace Go.Proofs.YtmdkfbmpenohiaaDoor
open Go.RowKit

def inS (s : Int) : Bool := s == 3 || s == 4
def outS (s : Int) : Bool := s == 2 || s == 4
def isS (s : Int) : Bool := decide (1 ≤ s) && decide (s ≤ 4)
def c1 (s : Int) : Int := if isS s then (if inS s then 0 else 1) else 0
def c2 (s : Int) : Int := if isS s then (if inS s then -1 else 1) else 0
def c3 (s : Int) : Int := if isS s then (if outS s then 0 else 1) else 0
def c4 (s : Int) : Int := if isS s then (if outS s then -1 else 1) else 0
def roomS (n m : Int) : Bool := decide (m < 0) || decide (n < m)

theorem results_tmp4 {fn : Func} {a b c d : Tmp} (h : fn.results = #[.tmp a, .tmp b, .tmp c, .tmp d]) (tmps : Array Value) (P : Program) (w : World) :
    (results fn tmps).run P w = .ok (.tuple #[tmps.getD a undef, tmps.getD b undef, tmps.getD c undef, tmps.getD d undef]) w := by
  simp [results, h]
theorem isS_cases {s : Int} (h : isS s = true) : s = 1 ∨ s = 2 ∨ s = 3 ∨ s = 4 := by simp [isS] at h; omega
theorem shapedS (s : Int) (w : World) : Calls Tryd.prog 64 #[.int .i64 s] w fun e w' => e = .returned (.bool (isS s)) ∧ w = w' := by
  go_enter Tryd.func64, Tryd.ntmps64
  go_wp2
  all_goals (go_ret; exact ⟨by simp [isS] <;> omega, rfl⟩)
theorem counts (s : Int) (w : World) : Calls Tryd.prog 49 #[.int .i64 s] w fun e w' => e = .returned (.tuple #[.int .i64 (c1 s), .int .i64 (c2 s), .int .i64 (c3 s), .int .i64 (c4 s)]) ∧ w = w' := by
  by_cases hs : isS s = true
  · rcases isS_cases hs with rfl | rfl | rfl | rfl
    all_goals
      clear hs
      go_enter Tryd.func49, Tryd.ntmps49
      go_wp2
      refine bodyPost_ret (results_tmp4 rfl _ _ _) rfl ⟨?_, rfl⟩
      simp [c1, c2, c3, c4, isS, inS, outS]
  · have hn : isS s = false := by simpa using hs
    clear hs
    go_enter Tryd.func49, Tryd.ntmps49
    go_wp2_with (go_at_call 64; refine (shapedS _ _).mono ?_; rintro e w' ⟨rfl, rfl⟩)
    refine bodyPost_ret (results_tmp4 rfl _ _ _) rfl ⟨?_, rfl⟩
    simp [c1, c2, c3, c4, hn]
end Go.Proofs.YtmdkfbmpenohiaaDoor
