/- Texts of this claim merged into one: R1, R2. -/
import Derived.Test.YtmdkfbmpenohiaaGreatDoorBunP
import Derived.Test.YtmdkfbmpenohiaaGreatDoorBunB
namespace Go.Proofs.YtmdkfbmpenohiaaGreatDoor.Y
open Go.RowKit
theorem wD (k : Int) : 0 ≤ k → k.tmod 2 = k % 2 := fun h => Int.tmod_eq_emod_of_nonneg h
def sA (k : Int) : Nat → Int
  | 0 => k
  | n + 1 => IntKind.i64.wrap ((sA k n).tdiv 2)
theorem qM {k : Int} (h0 : 0 ≤ k) (h1 : k < 16384) : ∀ n, sA k n = k / 2 ^ n ∧ 0 ≤ sA k n ∧ sA k n ≤ k
  | 0 => by simp [sA]; exact h0
  | n + 1 => by
    obtain ⟨h2, h3, h4⟩ := qM h0 h1 n
    have e1 : sA k (n + 1) = sA k n / 2 := by
      show IntKind.i64.wrap ((sA k n).tdiv 2) = sA k n / 2
      rw [Int.tdiv_eq_ediv_of_nonneg h3]
      exact IntWalk.i64_in _ (by omega)
    refine ⟨?_, by omega, by omega⟩
    rw [e1, h2, Int.pow_succ, Int.ediv_ediv_of_nonneg (by exact Int.le_of_lt (Int.pow_pos (by decide)))]
def zZ (k code : Int) : Bool := !(decide (code < 0) || decide (code > 13)) && decide ((sA k code.toNat).tmod 2 = 1)
def rP (k code : Int) : Bool := if code < 0 ∨ code > 13 then false else (sA k code.toNat).tmod 2 == 1
set_option maxRecDepth 100000 in
set_option maxHeartbeats 4000000 in
theorem pY (a b c k : Int) (w : World) : Calls Tryz.prog 21 #[.agg #[.int .i64 a, .int .i64 b, .int .i64 c, .int .i64 k]] w fun e w' => e = .returned (.int .i64 (eV a b c k)) ∧ Below w.heap.size w w' := by
  refine aD Tryz.func21 rfl Tryz.ntmps21 J J ?_
  repeat' (first | refine ag ?_ | refine aa ?_ | refine ab ?_ | refine aA ?_ | refine au ?_ | refine aE ?_ | refine a8 ?_ | refine ar ?_ | refine aH ?_ | refine ax ?_ | refine aQ ?_ | refine aN ?_ | refine cu rfl ?_ | refine aY aK rfl (by kernel_rfl) ?_ | refine ae ?_ | refine bz ?_ | (refine ea ?_; intro g) | ((first | refine' ak rfl ?_ J J ?_ | refine' dm rfl ?_ J J J ?_); rotate_left; first | exact ai af J J J J | exact aq af J J J J J J | exact bp J J J J J | exact bx J J J J J | exact ah af 0 J J J J J | exact ah af 1 J J J J J | exact fX af fm J J J J J J (by kernel_rfl) | exact ew af fm J J J J J J (by kernel_rfl) | exact aO af J J J J J J J | exact d9 J J J J J | exact cV J J J J J | exact jd J J J J J J J | exact aC af J J trivial J J J | exact aC af J J ⟨J, trivial⟩ J J J | exact aC af J J ⟨J, J, trivial⟩ J J J | exact aC af J J ⟨J, J, J, trivial⟩ J J J | exact aC af J J ⟨J, J, J, J, trivial⟩ J J J | exact aC af J J ⟨J, J, J, J, J, trivial⟩ J J J | exact aC af J J ⟨J, J, J, J, J, J, trivial⟩ J J J | exact aC af J J ⟨J, J, J, J, J, J, J, trivial⟩ J J J | exact aC af J J ⟨J, J, J, J, J, J, J, J, trivial⟩ J J J) | (refine aT J J J J J J ?_; intro g) | (refine aF af J J J J J J ?_; intro g) | refine dJ af J J J J J J ?_ | refine gA J J J J J J ?_ | refine aj af 0 J J J J J J J J J J J J ?_ | refine aj af 1 J J J J J J J J J J J J ?_ | (refine gz rfl (fun h => ?_) (fun h => ?_) <;> (try simp at h)))
  all_goals
    refine aB af (fun _ => 0) J J trivial rfl fun w hm => ⟨?_, hm.below⟩
    refine cx ?_
    clear hm
    unfold eV
    have ha := wD k
    grind
theorem fP (a b c k e : Int) (he : eV a b c k = e) (w : World) : Calls Tryz.prog 21 #[.agg #[.int .i64 a, .int .i64 b, .int .i64 c, .int .i64 k]] w fun r w' => r = .returned (.int .i64 e) ∧ Below w.heap.size w w' := by
  subst he; exact pY a b c k w
set_option maxRecDepth 100000 in
set_option maxHeartbeats 4000000 in
theorem vt (k code : Int) (w : World) : Calls Tryz.prog 108 #[.int .i64 k, .int .i64 code] w fun e w' => e = .returned (.bool (rP k code)) ∧ Below w.heap.size w w' := by
  refine aD Tryz.func108 rfl Tryz.ntmps108 J J ?_
  repeat' (first | refine ag ?_ | refine aa ?_ | refine ab ?_ | refine ae ?_ | ((refine' ak rfl ?_ J J ?_); rotate_left; first | exact ai af J J J J | exact aq af J J J J J J | exact bp J J J J J))
  by_cases h0 : code < 0 ∨ code > 13
  · refine aw rfl (by simpa using h0) ?_
    repeat' (first | refine ag ?_ | refine aa ?_ | refine ab ?_ | refine aA ?_ | refine ar ?_ | refine ae ?_ | ((refine' ak rfl ?_ J J ?_); rotate_left; exact ai af J J J J))
    refine aB af (fun _ => 0) J J trivial rfl fun w hm => ⟨?_, hm.below⟩
    refine bi ?_
    unfold rP; rw [if_pos h0]
  · refine am rfl (by simpa using h0) ?_
    repeat' (first | refine ag ?_ | refine aa ?_ | refine ab ?_ | refine au ?_ | refine aE ?_ | refine ae ?_ | ((refine' ak rfl ?_ J J ?_); rotate_left; exact ai af J J J J))
    refine bF (σ := Nat × Unit) (fun p => p.1 ≤ code.toNat) (fun p => [(5, [], .int .i64 ((p.1 : Nat) : Int)), (1, [], .int .i64 code), (0, [], .int .i64 (sA k p.1))]) (fun _ => []) (fun p => code.toNat - p.1) (0, ()) [] (Nat.zero_le _) ⟨J, J, J, trivial⟩ rfl ?_
    rintro ⟨j, ⟨⟩⟩ hj0
    dsimp only at hj0 ⊢
    repeat' (first | refine ag ?_ | refine aa ?_ | refine ab ?_ | refine ae ?_ | ((refine' ak rfl ?_ J J ?_); rotate_left; first | exact ai af J J J J | exact aq af J J J J J J))
    by_cases hj : j < code.toNat
    · refine aw rfl (by simp; omega) ?_
      repeat' (first | refine ag ?_ | refine aa ?_ | refine ab ?_ | refine au ?_ | refine aE ?_ | refine ax ?_ | refine ae ?_ | ((refine' ak rfl ?_ J J ?_); rotate_left; first | exact a6 J J J J J (by omega) | exact ai af J J J J | exact aq af J J J J J J))
      refine aR (j + 1, ()) [] hj (show code.toNat - (j + 1) < code.toNat - j by omega) ⟨J, J, J, trivial⟩ rfl
    · have hjl : j = code.toNat := by omega
      subst hjl
      refine am rfl (by simp; omega) ?_
      repeat' (first | refine ag ?_ | refine aa ?_ | refine ab ?_ | refine aA ?_ | refine a8 ?_ | refine aH ?_ | refine aN ?_ | refine ae ?_ | ((refine' ak rfl ?_ J J ?_); rotate_left; first | exact ai af J J J J | exact aq af J J J J J J))
      refine aB af (fun _ => 0) J J trivial rfl fun w hm => ⟨?_, hm.below⟩
      refine bi ?_
      unfold rP; rw [if_neg h0]
theorem zn (k code : Int) (l : Bool) (h : rP k code = l) (w : World) : Calls Tryz.prog 108 #[.int .i64 k, .int .i64 code] w fun e w' => e = .returned (.bool l) ∧ Below w.heap.size w w' := by subst h; exact vt k code w
set_option maxRecDepth 100000 in
set_option maxHeartbeats 4000000 in
theorem pZ (a b c k t m gn n code : Int) (safe : Bool) (w : World) : Calls Tryz.prog 76 #[.agg #[.int .i64 a, .int .i64 b, .int .i64 c, .int .i64 k], .agg #[.int .i64 t, .int .i64 m, .int .i64 gn], .int .i64 n, .int .i64 code, .bool safe] w fun e w' => e = .returned (.bool (nu a b c k t m gn n code safe)) ∧ Below w.heap.size w w' := by
  obtain ⟨e1, he1⟩ : ∃ e, eV a b c k = e := ⟨_, rfl⟩
  obtain ⟨e2, he2⟩ : ∃ e, da t m gn = e := ⟨_, rfl⟩
  obtain ⟨l, hl⟩ : ∃ l, rP k code = l := ⟨_, rfl⟩
  refine aD Tryz.func76 rfl Tryz.ntmps76 J J ?_
  repeat' (first | refine ag ?_ | refine aa ?_ | refine ab ?_ | refine aA ?_ | refine ae ?_ | ((refine' ak rfl ?_ J J ?_); rotate_left; first | exact ai af J J J J | exact aq af J J J J J J | exact bp J J J J J | exact bx J J J J J | exact ah af 0 J J J J J | exact ah af 1 J J J J J) | refine aG rfl (ay J J J J ⟨J, trivial⟩ rfl (by kernel_rfl)) (fun w hm => fP a b c k e1 he1 w) J J ?_ | refine aG rfl (ay J J J J ⟨J, trivial⟩ rfl (by kernel_rfl)) (fun w hm => fp t m gn e2 he2 w) J J ?_ | refine aG rfl (ay J J J J ⟨J, J, trivial⟩ rfl (by kernel_rfl)) (fun w hm => zn k code l hl w) J J ?_ | (refine aT J J J J J J ?_; intro g))
  refine aB af (fun _ => 0) J J trivial rfl fun w hm => ⟨?_, hm.below⟩
  refine bi ?_
  unfold nu
  rw [he1, he2]
  by_cases h0 : e1 = 0
  · subst h0
    have hr := fy he1
    have hx := qM (k := k) (by omega) (by omega) code.toNat
    have hlis : l = (decide (1 ≤ code) && decide (code ≤ 13) && decide ((k / 2 ^ code.toNat) % 2 = 1)) := by
      rw [← hl]
      unfold rP
      by_cases hc : code < 0 ∨ code > 13
      · rw [if_pos hc]
        rcases hc with hc | hc
        · simp; omega
        · simp; omega
      · rw [if_neg hc, wD _ hx.2.1, hx.1]
        by_cases hz : code = 0
        · subst hz
          simp
          omega
        · have h1 : 1 ≤ code := by omega
          have h2 : code ≤ 13 := by omega
          simp [h1, h2]
          rfl
    rw [hlis]
    clear hm hlis hl hx
    grind
  · clear hm
    simp [h0]
set_option maxRecDepth 100000 in
set_option maxHeartbeats 4000000 in
theorem rQ (t m gn : Int) (w : World) : Calls Tryz.prog 67 #[.agg #[.int .i64 t, .int .i64 m, .int .i64 gn]] w fun e w' => e = .returned (.agg #[.int .i64 (dt t m gn), .int .i64 m, .int .i64 gn]) ∧ Below w.heap.size w w' := by
  obtain ⟨e, he⟩ : ∃ e, da t m gn = e := ⟨_, rfl⟩
  refine aD Tryz.func67 rfl Tryz.ntmps67 J J ?_
  repeat' (first | refine ag ?_ | refine aa ?_ | refine ab ?_ | refine ae ?_ | ((refine' ak rfl ?_ J J ?_); rotate_left; first | exact aq af J J J J J J | exact ah af 1 J J J J J) | refine aG rfl (ay J J J J ⟨J, trivial⟩ rfl (by kernel_rfl)) (fun w hm => fp t m gn e he w) J J ?_ | (refine aT J J J J J J ?_; intro g) | (refine aF af J J J J J J ?_; intro g))
  by_cases hb0 : e = 0
  · have hb : da t m gn = 0 := by rw [he]; exact hb0
    have hr := gj hb
    subst hb0
    refine aw J J ?_
    repeat' (first | refine ag ?_ | refine aa ?_ | refine ab ?_ | refine aA ?_ | refine ae ?_ | ((refine' ak rfl ?_ J J ?_); rotate_left; first | exact a6 J J J J J (by omega) | exact ai af J J J J | exact ah af 1 J J J J J | exact cV J J J J J) | refine aj af 0 J J J J J J J J J J J J ?_ | refine aj af 1 J J J J J J J J J J J J ?_)
    (refine aB af (fun _ => 0) J J ⟨J, trivial⟩ rfl fun w hm => ⟨?_, hm.below⟩)
    refine kA ?_
    unfold dt; rw [if_pos hb]
    clear hm
    try (split <;> omega)
  · have hb : ¬ da t m gn = 0 := by rw [he]; exact hb0
    refine am rfl (by simpa using hb0) ?_
    repeat' (first | refine ag ?_ | refine aa ?_ | refine ab ?_ | refine aA ?_ | refine au ?_ | refine ae ?_ | ((refine' ak rfl ?_ J J ?_); rotate_left; exact ah af 1 J J J J J) | refine aj af 0 J J J J J J J J J J J J ?_)
    (refine aB af (fun _ => 0) J J ⟨J, trivial⟩ rfl fun w hm => ⟨?_, hm.below⟩)
    refine kA ?_
    unfold dt; rw [if_neg hb]
set_option maxRecDepth 100000 in
set_option maxHeartbeats 4000000 in
theorem oA (a b c k : Int) (n : Int) (w : World) (hn1 : 1 ≤ n) (hn : n ≤ 10) (he : eV a b c k = 0) : Calls Tryz.prog 75 #[.agg #[.int .i64 a, .int .i64 b, .int .i64 c, .int .i64 k], .int .i64 n] w fun e w' => e = .returned (.int .i64 (lf a b c k n)) ∧ Below w.heap.size w w' := by
  refine aD Tryz.func75 rfl Tryz.ntmps75 J J ?_
  have hr := fy he
  repeat' (first | refine ag ?_ | refine aa ?_ | refine ab ?_ | refine ae ?_ | ((refine' ak rfl ?_ J J ?_); rotate_left; first | exact ai af J J J J | exact aq af J J J J J J | exact bp J J J J J | exact ah af 0 J J J J J) | refine aG rfl (ay J J J J ⟨J, trivial⟩ rfl (by kernel_rfl)) (fun w hm => fP a b c k 0 he w) J J ?_ | (refine aT J J J J J J ?_; intro g))
  refine am rfl (by simp; omega) ?_
  repeat' (first | refine ag ?_ | refine aa ?_ | refine ab ?_ | refine au ?_ | refine aE ?_ | refine ae ?_ | ((refine' ak rfl ?_ J J ?_); rotate_left; first | exact ai af J J J J | exact ah af 0 J J J J J))
  refine bF (σ := Nat × Int) (fun p => ((p.1 + 1 : Nat) : Int) ≤ n ∧ p.2 = min (b * 2 ^ p.1) c) (fun p => [(6, [], .int .i64 (((p.1 + 1 : Nat)) : Int)), (1, [], .int .i64 n), (5, [], .int .i64 p.2), (2, [], .pointer (some ⟨g, 0, none⟩))]) (fun _ => [.cl g 24 [.int .i64 a, .int .i64 b, .int .i64 c, .int .i64 k]]) (fun p => 10 - p.1) (0, b) [true] ⟨by show ((0 + 1 : Nat) : Int) ≤ n; omega, by show b = min (b * 2 ^ 0) c; rw [Int.pow_zero, Int.mul_one]; omega⟩ ⟨J, J, J, J, trivial⟩ rfl ?_
  rintro ⟨j, q⟩ ⟨hj0, hq⟩
  dsimp only at hj0 hq ⊢
  have hst := hY b j
  have hpos : b ≤ b * 2 ^ j := by have := jq b (by omega) 0 j (Nat.zero_le _); simpa using this
  have hp : lf a b c k n = min (b * 2 ^ (min (n - 1) 64).toNat) c := if_neg (by omega)
  repeat' (first | refine ag ?_ | refine aa ?_ | refine ab ?_ | refine ae ?_ | ((refine' ak rfl ?_ J J ?_); rotate_left; first | exact ai af J J J J | exact aq af J J J J J J | exact bx J J J J J | exact ah af 0 J J J J J))
  by_cases hj : ((j + 1 : Nat) : Int) < n ∧ q < c
  · obtain ⟨hj1, hqc⟩ := hj
    refine aw rfl (by simp; omega) ?_
    repeat' (first | refine ag ?_ | refine aa ?_ | refine ab ?_ | refine au ?_ | refine aE ?_ | refine ax ?_ | refine ae ?_ | ((refine' ak rfl ?_ J J ?_); rotate_left; first | exact dg (v := .int .i64 (2 * q)) (aq af J J J J J J) (congrArg (Value.int .i64) (IntWalk.i64_in _ (by omega))) | exact a6 J J J J J (by omega) | exact ai af J J J J | exact ah af 0 J J J J J | exact cV J J J J J))
    refine aR (j + 1, if c < 2 * q then c else 2 * q) [true] ⟨by show ((j + 1 + 1 : Nat) : Int) ≤ n; omega, by show (if c < 2 * q then c else 2 * q) = min (b * 2 ^ (j + 1)) c; split <;> omega⟩ (show 10 - (j + 1) < 10 - j by omega) ⟨J, J, J, J, trivial⟩ rfl
  · refine am rfl (by simp; omega) ?_
    repeat' (first | refine ag ?_ | refine aa ?_ | refine ab ?_ | refine aA ?_ | refine a8 ?_ | refine aH ?_ | refine aN ?_ | refine ae ?_ | ((refine' ak rfl ?_ J J ?_); rotate_left; exact ai af J J J J))
    refine aB af (fun _ => 0) J J trivial rfl fun w hm => ⟨?_, hm.below⟩
    refine cx ?_
    rw [hp, hq]
    by_cases hjn : ((j + 1 : Nat) : Int) = n
    · rw [show (min (n - 1) 64).toNat = j by omega]
    · have hjl : j ≤ (min (n - 1) 64).toNat := by omega
      have := jq b (by omega) j _ hjl
      omega
end Go.Proofs.YtmdkfbmpenohiaaGreatDoor.Y
namespace Go.Proofs.YtmdkfbmpenohiaaGreatDoor.Y
open Go.RowKit
def tC (p : Option ByteArray) (b : BV) : Bool := match p with | some x => (Op.bytesLess b.nm.toList x.toList || b.nm.toList == x.toList) | none => false
theorem oB (p : Option ByteArray) (b : BV) (r : List BV) : eM p (b :: r) = if eO b.nm = false then 8 else if tC p b = true then 11 else if dK b = false then 1 else eM (some b.nm) r := by cases p <;> rfl
set_option maxRecDepth 100000 in
set_option maxHeartbeats 4000000 in
theorem ly (n : Int) (w : World) : Calls Tryz.prog 102 #[.int .i64 n] w fun e w' => e = .returned (.int .i64 (bI n)) ∧ Below w.heap.size w w' := by
  refine aD Tryz.func102 rfl Tryz.ntmps102 J J ?_
  repeat' (first | refine ag ?_ | refine aa ?_ | refine ab ?_ | refine aA ?_ | refine ae ?_ | ((refine' ak rfl ?_ J J ?_); rotate_left; first | exact ai af J J J J | exact d9 J J J J J | exact cV J J J J J))
  all_goals
    refine aB af (fun _ => 0) J J trivial rfl fun w hm => ⟨?_, hm.below⟩
    refine cx ?_
    clear hm
    unfold bI cp
    omega
set_option maxRecDepth 100000 in
set_option maxHeartbeats 8000000 in
theorem vu (s : ByteArray) (w : World) : Calls Tryz.prog 43 #[.string s] w fun e w' => e = .returned (.bool (eO s)) ∧ Below w.heap.size w w' := by
  refine aD Tryz.func43 rfl Tryz.ntmps43 J J ?_
  repeat' (first | refine ag ?_ | refine aa ?_ | refine ab ?_ | refine ae ?_ | ((refine' ak rfl ?_ J J ?_); rotate_left; first | exact ai af J J J J | exact aq af J J J J J J | exact bp J J J J J | exact aO af J J J J J J J))
  by_cases h0 : 1 ≤ s.size ∧ s.size ≤ 40
  · refine am rfl (by simp; omega) ?_
    repeat' (first | refine ag ?_ | refine aa ?_ | refine ab ?_ | refine au ?_ | refine aE ?_ | refine ae ?_ | ((refine' ak rfl ?_ J J ?_); rotate_left; exact ai af J J J J))
    refine bF (σ := Nat) (fun p => p ≤ s.size ∧ eO s = (s.data.toList.drop p).all vi) (fun p => [(3, [], .int .i64 ((p : Nat) : Int)), (0, [], .string s)]) (fun _ => []) (fun p => s.size - p) 0 [] ⟨Nat.zero_le _, by unfold eO; simp [h0.1, h0.2]⟩ ⟨J, J, trivial⟩ rfl ?_
    rintro j ⟨hj0, hr⟩
    by_cases hj : j < s.size
    · obtain ⟨c, hc⟩ := qK hj
      have ha := tp hc
      rw [cn hc, List.all_cons] at hr
      repeat' (first | refine ag ?_ | refine aa ?_ | refine ab ?_ | refine ae ?_ | ((refine' ak rfl ?_ J J ?_); rotate_left; first | exact ai af J J J J | exact aq af J J J J J J | exact aO af J J J J J J J))
      refine aw rfl (by simp; omega) ?_
      repeat' (first | refine ag ?_ | refine aa ?_ | refine ab ?_ | refine au ?_ | refine aE ?_ | refine ae ?_ | ((refine' ak rfl ?_ J J ?_); rotate_left; first | exact qF af j J J J J J J (fun _ => ⟨rfl, hj⟩) | exact ai af J J J J | exact aq af J J J J J J | exact bp J J J J J | exact bx J J J J J))
      by_cases hh : vi c = true
      · rw [hh, Bool.true_and] at hr
        refine am rfl (by rw [ha]; unfold vi at hh; simp at hh ⊢; omega) ?_
        repeat' (first | refine aa ?_ | refine ab ?_ | refine au ?_ | refine ax ?_ | refine ae ?_ | ((refine' ak rfl ?_ J J ?_); rotate_left; first | exact a6 J J J J J (by omega) | exact ai af J J J J))
        refine aR (j + 1) [] ⟨hj, hr⟩ (show s.size - (j + 1) < s.size - j by omega) ⟨J, J, trivial⟩ rfl
      · have hh' := eq_false_of_ne_true hh
        rw [hh', Bool.false_and] at hr
        refine aw rfl (by rw [ha]; unfold vi at hh'; simp at hh' ⊢; omega) ?_
        repeat' (first | refine ag ?_ | refine aa ?_ | refine ab ?_ | refine aA ?_ | refine ar ?_ | refine aQ ?_ | refine ae ?_ | ((refine' ak rfl ?_ J J ?_); rotate_left; exact ai af J J J J))
        refine aB af (fun _ => 0) J J trivial rfl fun w hm => ⟨?_, hm.below⟩
        rw [hr]
    · rw [List.drop_eq_nil_of_le (by rw [Array.length_toList]; show s.size ≤ j; omega)] at hr
      repeat' (first | refine ag ?_ | refine aa ?_ | refine ab ?_ | refine ae ?_ | ((refine' ak rfl ?_ J J ?_); rotate_left; first | exact ai af J J J J | exact aq af J J J J J J | exact aO af J J J J J J J))
      refine am rfl (by simp; omega) ?_
      repeat' (first | refine ag ?_ | refine aa ?_ | refine ab ?_ | refine aA ?_ | refine a8 ?_ | refine aH ?_ | refine aN ?_ | refine ae ?_ | ((refine' ak rfl ?_ J J ?_); rotate_left; exact ai af J J J J))
      refine aB af (fun _ => 0) J J trivial rfl fun w hm => ⟨?_, hm.below⟩
      rw [hr]; rfl
  · refine aw rfl (by simp; omega) ?_
    repeat' (first | refine ag ?_ | refine aa ?_ | refine ab ?_ | refine aA ?_ | refine ar ?_ | refine ae ?_ | ((refine' ak rfl ?_ J J ?_); rotate_left; exact ai af J J J J))
    refine aB af (fun _ => 0) J J trivial rfl fun w hm => ⟨?_, hm.below⟩
    refine bi ?_
    unfold eO
    by_cases h1 : 1 ≤ s.size
    · have h2 : ¬ s.size ≤ 40 := fun h => h0 ⟨h1, h⟩
      simp [h2]
    · simp [h1]
theorem zo (s : ByteArray) (b : Bool) (h : eO s = b) (w : World) : Calls Tryz.prog 43 #[.string s] w fun e w' => e = .returned (.bool b) ∧ Below w.heap.size w w' := by subst h; exact vu s w
set_option maxRecDepth 100000 in
set_option maxHeartbeats 8000000 in
theorem my {A : Nat → Prop} (x : Option Addr) (l : List BV) (cap : Nat) (nm : ByteArray) (w : World) (hR : Rws A w 6 bC x l) (hlen : l.length ≤ 2513169434916) : Calls Tryz.prog 79 #[.slice x l.length cap, .string nm] w fun e w' => e = .returned (.tuple #[.int .i64 (((eA nm l 0).getD 0 : Nat) : Int), .bool (eA nm l 0).isSome]) ∧ Below w.heap.size w w' := by
  refine aD Tryz.func79 rfl Tryz.ntmps79 J J ?_
  repeat' (first | refine ag ?_ | refine aa ?_ | refine ab ?_ | refine aE ?_ | refine ae ?_ | ((refine' ak rfl ?_ J J ?_); rotate_left; exact ai af J J J J))
  refine bF (σ := Nat) (fun p => p ≤ l.length ∧ eA nm l 0 = eA nm (l.drop p) p) (fun p => [(6, [], .int .i64 ((p : Nat) : Int)), (0, [], .slice x l.length cap), (1, [], .string nm)]) (fun _ => []) (fun p => l.length - p) 0 [] ⟨Nat.zero_le _, rfl⟩ ⟨J, J, J, trivial⟩ rfl ?_
  rintro j ⟨hj0, hr⟩
  by_cases hj : j < l.length
  · skip
    obtain ⟨v, hv⟩ : ∃ v, l[j]? = some v := ⟨l[j], List.getElem?_eq_getElem hj⟩
    obtain ⟨bb, off, rfl, _, _, hrows⟩ := hR (by omega)
    have hrow : w.rangeAt bb (off + j * 6) [.string v.nm, .int .i64 v.ld, .int .i64 v.bs, .int .i64 v.wt, .int .i64 v.fl, .int .i64 v.ot] := hrows j v hv
    rw [cn hv, eA] at hr
    repeat' (first | refine ag ?_ | refine aa ?_ | refine ab ?_ | refine ae ?_ | ((refine' ak rfl ?_ J J ?_); rotate_left; first | exact ai af J J J J | exact aq af J J J J J J | exact aO af J J J J J J J))
    refine aw rfl (by simp; omega) ?_
    repeat' (first | refine ag ?_ | refine aa ?_ | refine ab ?_ | refine au ?_ | refine aE ?_ | refine ae ?_ | ((refine' ak rfl ?_ J J ?_); rotate_left; first | exact bA af (m := 6) j J J J J J J J J (fun _ => rfl) (fun _ => hj) | exact bT af J J J J J (fun _ => hrow 0 _ rfl) | exact ai af J J J J | exact aq af J J J J J J))
    by_cases hh : rI v.nm nm = true
    · rw [if_pos hh] at hr
      refine aw rfl (by exact hh) ?_
      repeat' (first | refine ag ?_ | refine aa ?_ | refine ab ?_ | refine aA ?_ | refine ar ?_ | refine aQ ?_ | refine ae ?_ | ((refine' ak rfl ?_ J J ?_); rotate_left; exact ai af J J J J))
      refine aB af (fun _ => 0) J J trivial rfl fun w hm => ⟨?_, hm.below⟩
      rw [hr]; rfl
    · rw [if_neg hh] at hr
      refine am rfl (by exact eq_false_of_ne_true hh) ?_
      repeat' (first | refine aa ?_ | refine ab ?_ | refine au ?_ | refine ax ?_ | refine ae ?_ | ((refine' ak rfl ?_ J J ?_); rotate_left; first | exact a6 J J J J J (by omega) | exact ai af J J J J))
      refine aR (j + 1) [] ⟨hj, hr⟩ (show l.length - (j + 1) < l.length - j by omega) ⟨J, J, J, trivial⟩ rfl
  · rw [List.drop_eq_nil_of_le (by omega)] at hr
    repeat' (first | refine ag ?_ | refine aa ?_ | refine ab ?_ | refine ae ?_ | ((refine' ak rfl ?_ J J ?_); rotate_left; first | exact ai af J J J J | exact aq af J J J J J J | exact aO af J J J J J J J))
    refine am rfl (by simp; omega) ?_
    repeat' (first | refine ag ?_ | refine aa ?_ | refine ab ?_ | refine aA ?_ | refine a8 ?_ | refine aH ?_ | refine aN ?_ | refine ae ?_ | ((refine' ak rfl ?_ J J ?_); rotate_left; exact ai af J J J J))
    refine aB af (fun _ => 0) J J trivial rfl fun w hm => ⟨?_, hm.below⟩
    rw [hr]; rfl
set_option maxRecDepth 100000 in
set_option maxHeartbeats 16000000 in
theorem rR {A : Nat → Prop} (x : Option Addr) (l : List BV) (cap : Nat) (w : World) (hR : Rws A w 6 bC x l) (hlen : l.length ≤ 2513169434916) : Calls Tryz.prog 20 #[.slice x l.length cap] w fun e w' => e = .returned (.int .i64 (fu l)) ∧ Below w.heap.size w w' := by
  refine aD Tryz.func20 rfl Tryz.ntmps20 J J ?_
  repeat' (first | refine ag ?_ | refine aa ?_ | refine ab ?_ | refine ae ?_ | ((refine' ak rfl ?_ J J ?_); rotate_left; first | exact ai af J J J J | exact aq af J J J J J J | exact aO af J J J J J J J))
  by_cases h8 : 8 < l.length
  · refine aw rfl (by simp; omega) ?_
    repeat' (first | refine ag ?_ | refine aa ?_ | refine ab ?_ | refine aA ?_ | refine ar ?_ | refine ae ?_ | ((refine' ak rfl ?_ J J ?_); rotate_left; exact ai af J J J J))
    refine aB af (fun _ => 0) J J trivial rfl fun w hm => ⟨?_, hm.below⟩
    unfold fu; rw [if_pos h8]
  · refine am rfl (by simp; omega) ?_
    repeat' (first | refine ag ?_ | refine aa ?_ | refine ab ?_ | refine au ?_ | refine aE ?_ | refine ae ?_ | ((refine' ak rfl ?_ J J ?_); rotate_left; exact ai af J J J J))
    refine bF (σ := Nat) (fun p => p ≤ l.length ∧ fu l = eM (fA l p) (l.drop p)) (fun p => [(3, [], .int .i64 ((p : Nat) : Int)), (0, [], .slice x l.length cap)]) (fun _ => []) (fun p => l.length - p) 0 [] ⟨Nat.zero_le _, if_neg h8⟩ ⟨J, J, trivial⟩ rfl ?_
    rintro j ⟨hj0, hr⟩
    by_cases hj : j < l.length
    · skip
      obtain ⟨v, hv⟩ : ∃ v, l[j]? = some v := ⟨l[j], List.getElem?_eq_getElem hj⟩
      obtain ⟨bb, off, rfl, _, _, hrows⟩ := hR (by omega)
      have hrow : w.rangeAt bb (off + j * 6) [.string v.nm, .int .i64 v.ld, .int .i64 v.bs, .int .i64 v.wt, .int .i64 v.fl, .int .i64 v.ot] := hrows j v hv
      rw [cn hv, oB] at hr
      have hpv : fA l (j + 1) = some v.nm := by simp [fA, hv]
      rw [← hpv] at hr
      obtain ⟨b1, hb1⟩ : ∃ b, eO v.nm = b := ⟨_, rfl⟩
      have hpr0 : ∃ pv : ByteArray, 0 < j → l[j - 1]?.map (·.nm) = some pv ∧ w.cell? ⟨bb, off + (j - 1) * 6 + 0, none⟩ = some (.string pv) := by
        by_cases hjz : 0 < j
        · have hq : l[j - 1]? = some l[j - 1] := List.getElem?_eq_getElem (by omega)
          exact ⟨l[j - 1].nm, fun _ => ⟨by rw [hq]; rfl, hrows (j - 1) _ hq 0 _ rfl⟩⟩
        · exact ⟨⟨#[]⟩, fun h => absurd h hjz⟩
      obtain ⟨pv, hpr1⟩ := hpr0
      have hpr := fun h => (hpr1 h).2
      have hpx : 0 < j → fA l j = some pv := fun h => by unfold fA; rw [if_neg (by omega)]; exact (hpr1 h).1
      have hgt : ∀ {L : Cd}, aL ((decide ((j : Int) > 0), true) :: L) = true → 0 < j := fun h => by simp [aL] at h; omega
      repeat' (first | refine ag ?_ | refine aa ?_ | refine ab ?_ | refine ae ?_ | ((refine' ak rfl ?_ J J ?_); rotate_left; first | exact ai af J J J J | exact aq af J J J J J J | exact aO af J J J J J J J))
      refine aw rfl (by simp; omega) ?_
      repeat' (first | refine ag ?_ | refine aa ?_ | refine ab ?_ | refine au ?_ | refine aE ?_ | refine ae ?_ | (refine aF af J J J J J J ?_; intro g9) | ((refine' ak rfl ?_ J J ?_); rotate_left; first | exact bA af (m := 6) j J J J J J J J J (fun _ => rfl) (fun _ => hj) | exact a7 af J J J J J (fun _ => hrow) | exact ai af J J J J | exact ah af 0 J J J J J) | refine aG rfl (ay J J J J ⟨J, trivial⟩ rfl (by kernel_rfl)) (fun w hm => zo v.nm b1 hb1 w) J J ?_ | refine aj af 0 J J J J J J J J J J J J ?_)
      cases b1 with
      | false =>
        rw [if_pos hb1] at hr
        refine aw J J ?_
        repeat' (first | refine ag ?_ | refine aa ?_ | refine ab ?_ | refine aA ?_ | refine ar ?_ | refine aQ ?_ | refine ae ?_ | ((refine' ak rfl ?_ J J ?_); rotate_left; exact ai af J J J J))
        refine aB af (fun _ => 0) J J trivial rfl fun w hm => ⟨?_, hm.below⟩
        rw [hr]
      | true =>
        rw [if_neg (by rw [hb1]; decide)] at hr
        refine am J J ?_
        repeat' (first | refine ag ?_ | refine ab ?_ | refine au ?_ | refine aY aK rfl (by kernel_rfl) ?_ | refine ae ?_ | refine bz ?_ | ((refine' dm rfl ?_ J J J ?_); rotate_left; first | exact bA af (m := 6) (j - 1) J J J J J J J J (fun hL => by have := hgt hL; omega) (fun hL => by have := hgt hL; omega) | exact bT af J J J J J (fun hL => hpr (hgt hL)) | exact gX J J J J J (by omega) | exact ai af J J J J | exact aq af J J J J J J | exact bx J J J J J | exact ah af 0 J J J J J))
        by_cases hh : tC (fA l j) v = true
        · rw [if_pos hh] at hr
          have hjz : 0 < j := by
            by_cases hjz : 0 < j
            · exact hjz
            · obtain rfl : j = 0 := by omega
              simp [fA, tC] at hh
          rw [hpx hjz] at hh
          refine aw rfl (by
            have hh1 : (Op.bytesLess v.nm.toList pv.toList || v.nm.toList == pv.toList) = true := hh
            rw [jl] at hh1
            simp only [Bool.and_eq_true, decide_eq_true_eq]; exact ⟨by omega, hh1⟩) ?_
          repeat' (first | refine ag ?_ | refine aa ?_ | refine ab ?_ | refine aA ?_ | refine ar ?_ | refine aQ ?_ | refine ae ?_ | ((refine' ak rfl ?_ J J ?_); rotate_left; exact ai af J J J J))
          refine aB af (fun _ => 0) J J trivial rfl fun w hm => ⟨?_, hm.below⟩
          rw [hr]
        · rw [if_neg hh] at hr
          refine am rfl (by
            by_cases hjz : 0 < j
            · rw [hpx hjz] at hh
              have hh1 : ¬ (Op.bytesLess v.nm.toList pv.toList || v.nm.toList == pv.toList) = true := hh
              rw [jl] at hh1
              simp only [Bool.and_eq_false_iff]; exact .inr (eq_false_of_ne_true hh1)
            · simp only [Bool.and_eq_false_iff, decide_eq_false_iff_not]; exact .inl (by omega)) ?_
          repeat' (first | refine ag ?_ | refine aa ?_ | refine ab ?_ | refine au ?_ | refine ae ?_ | ((refine' ak rfl ?_ J J ?_); rotate_left; first | exact ai af J J J J | exact aq af J J J J J J | exact bp J J J J J | exact ah af 0 J J J J J))
          by_cases hb : dK v = true
          · rw [if_neg (by rw [hb]; decide)] at hr
            have hbr := ec hb
            refine am rfl (by simp; omega) ?_
            repeat' (first | refine aa ?_ | refine ab ?_ | refine au ?_ | refine ax ?_ | refine ae ?_ | ((refine' ak rfl ?_ J J ?_); rotate_left; first | exact a6 J J J J J (by omega) | exact ai af J J J J))
            refine aR (j + 1) [false] ⟨hj, hr⟩ (show l.length - (j + 1) < l.length - j by omega) ⟨J, J, trivial⟩ rfl
          · have hb' := eq_false_of_ne_true hb
            rw [if_pos hb'] at hr
            have hbx : ¬ (0 ≤ v.ld ∧ v.ld ≤ 1000000 ∧ 0 ≤ v.bs ∧ v.bs ≤ 1000000 ∧ 0 ≤ v.fl ∧ v.fl ≤ 1000000 ∧ 1 ≤ v.wt ∧ v.wt ≤ 100 ∧ 0 ≤ v.ot ∧ v.ot ≤ 2199023255552) := fun h => hb (by unfold dK gR; simp; omega)
            refine aw rfl (by simp; omega) ?_
            repeat' (first | refine ag ?_ | refine aa ?_ | refine ab ?_ | refine aA ?_ | refine ar ?_ | refine aQ ?_ | refine ae ?_ | ((refine' ak rfl ?_ J J ?_); rotate_left; exact ai af J J J J))
            refine aB af (fun _ => 0) J J trivial rfl fun w hm => ⟨?_, hm.below⟩
            rw [hr]
    · rw [List.drop_eq_nil_of_le (by omega)] at hr
      repeat' (first | refine ag ?_ | refine aa ?_ | refine ab ?_ | refine ae ?_ | ((refine' ak rfl ?_ J J ?_); rotate_left; first | exact ai af J J J J | exact aq af J J J J J J | exact aO af J J J J J J J))
      refine am rfl (by simp; omega) ?_
      repeat' (first | refine ag ?_ | refine aa ?_ | refine ab ?_ | refine aA ?_ | refine a8 ?_ | refine aH ?_ | refine aN ?_ | refine ae ?_ | ((refine' ak rfl ?_ J J ?_); rotate_left; exact ai af J J J J))
      refine aB af (fun _ => 0) J J trivial rfl fun w hm => ⟨?_, hm.below⟩
      rw [hr]; rfl
set_option maxRecDepth 100000 in
set_option maxHeartbeats 8000000 in
theorem oC (a b : BV) (w : World) (ha : dK a = true) (hb : dK b = true) : Calls Tryz.prog 103 #[.agg #[.string a.nm, .int .i64 a.ld, .int .i64 a.bs, .int .i64 a.wt, .int .i64 a.fl, .int .i64 a.ot], .agg #[.string b.nm, .int .i64 b.ld, .int .i64 b.bs, .int .i64 b.wt, .int .i64 b.fl, .int .i64 b.ot]] w fun e w' => e = .returned (.bool (pA a b)) ∧ Below w.heap.size w w' := by
  have h1 := ec ha
  have h2 := ec hb
  refine aD Tryz.func103 rfl Tryz.ntmps103 J J ?_
  repeat' (first | refine ag ?_ | refine aa ?_ | refine ab ?_ | refine aA ?_ | refine ae ?_ | ((refine' ak rfl ?_ J J ?_); rotate_left; first | exact a6 J J J J J (by omega) | exact dg (v := .int .i64 ((a.bs + a.ld) * b.wt)) (aq af J J J J J J) (congrArg (Value.int .i64) (nv _ _ (by omega) (by omega) (by omega) (by omega))) | exact dg (v := .int .i64 ((b.bs + b.ld) * a.wt)) (aq af J J J J J J) (congrArg (Value.int .i64) (nv _ _ (by omega) (by omega) (by omega) (by omega))) | exact ai af J J J J | exact aq af J J J J J J | exact bp J J J J J | exact bx J J J J J | exact ah af 0 J J J J J | exact ah af 1 J J J J J) | (refine aT J J J J J J ?_; intro g))
  refine aB af (fun _ => 0) J J trivial rfl fun w hm => ⟨?_, hm.below⟩
  refine bi ?_
  unfold pA
  simp [Bool.beq_eq_decide_eq]
end Go.Proofs.YtmdkfbmpenohiaaGreatDoor.Y
