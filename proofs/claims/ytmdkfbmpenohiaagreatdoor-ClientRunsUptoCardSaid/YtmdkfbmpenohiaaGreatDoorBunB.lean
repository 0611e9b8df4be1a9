/- Texts of this claim merged into one: Bl2, Bl3. -/
import Derived.Test.YtmdkfbmpenohiaaGreatDoorBunP
namespace Go.Proofs.YtmdkfbmpenohiaaGreatDoor.Y
open Go.RowKit
theorem cn {α : Type} {l : List α} {j : Nat} {v : α} (h : l[j]? = some v) : l.drop j = v :: l.drop (j + 1) := by
  obtain ⟨h1, h2⟩ := List.getElem?_eq_some_iff.1 h
  rw [List.drop_eq_getElem_cons h1, h2]
theorem tp {s : ByteArray} {j : Nat} {c : UInt8} (h : s.data.toList[j]? = some c) : ze s j = c.toNat := by
  unfold ze; rw [List.getD_eq_getElem?_getD, h]; rfl
theorem qK {s : ByteArray} {j : Nat} (h : j < s.size) : ∃ c, s.data.toList[j]? = some c := ⟨_, List.getElem?_eq_getElem (by rw [Array.length_toList]; exact h)⟩
set_option maxRecDepth 100000 in
set_option maxHeartbeats 8000000 in
theorem tq {A : Nat → Prop} (x : Option Addr) (l : List BV) (cap : Nat) (nm : ByteArray) (w : World) (hR : Rws A w 6 bC x l) (hlen : l.length ≤ 2513169434916) : Calls Tryz.prog 90 #[.slice x l.length cap, .string nm] w fun e w' => e = .returned (.tuple #[.int .i64 (((eA nm l 0).getD 0 : Nat) : Int), .bool (eA nm l 0).isSome]) ∧ Below w.heap.size w w' := by
  refine aD Tryz.func90 rfl Tryz.ntmps90 J J ?_
  repeat' (first | refine ag ?_ | refine aa ?_ | refine ab ?_ | refine aE ?_ | refine ae ?_ | ((refine' ak rfl ?_ J J ?_); rotate_left; first | exact ai af J J J J | exact aO af J J J J J J J))
  refine bF (σ := Nat) (fun p => p ≤ l.length ∧ eA nm l 0 = eA nm (l.drop p) p) (fun p => [(10, [], .int .i64 ((p : Nat) : Int)), (9, [], .int .i64 ((l.length : Nat) : Int)), (8, [], .slice x l.length cap), (1, [], .string nm)]) (fun _ => []) (fun p => l.length - p) 0 [] ⟨Nat.zero_le _, rfl⟩ ⟨J, J, J, J, trivial⟩ rfl ?_
  rintro j ⟨hj0, hr⟩
  by_cases hj : j < l.length
  · skip
    obtain ⟨v, hv⟩ : ∃ v, l[j]? = some v := ⟨l[j], List.getElem?_eq_getElem hj⟩
    obtain ⟨bb, off, rfl, _, _, hrows⟩ := hR (by omega)
    have hrow : w.rangeAt bb (off + j * 6) [.string v.nm, .int .i64 v.ld, .int .i64 v.bs, .int .i64 v.wt, .int .i64 v.fl, .int .i64 v.ot] := hrows j v hv
    rw [cn hv, eA] at hr
    repeat' (first | refine ag ?_ | refine aa ?_ | refine ab ?_ | refine ae ?_ | ((refine' ak rfl ?_ J J ?_); rotate_left; exact aq af J J J J J J))
    refine aw rfl (by simp; omega) ?_
    repeat' (first | refine ag ?_ | refine aa ?_ | refine ab ?_ | refine au ?_ | refine aE ?_ | refine ae ?_ | (refine aF af J J J J J J ?_; intro g9) | ((refine' ak rfl ?_ J J ?_); rotate_left; first | exact bA af (m := 6) j J J J J J J J J (fun _ => rfl) (fun _ => hj) | exact a7 af J J J J J (fun _ => hrow) | exact ai af J J J J | exact aq af J J J J J J | exact ah af 0 J J J J J) | refine aj af 0 J J J J J J J J J J J J ?_)
    by_cases hh : rI v.nm nm = true
    · rw [if_pos hh] at hr
      refine aw rfl (by exact hh) ?_
      repeat' (first | refine ag ?_ | refine aa ?_ | refine ab ?_ | refine aA ?_ | refine ar ?_ | refine aQ ?_ | refine ae ?_ | ((refine' ak rfl ?_ J J ?_); rotate_left; exact ai af J J J J))
      refine aB af (fun _ => 0) J J trivial rfl fun w hm => ⟨?_, hm.below⟩
      rw [hr]; rfl
    · rw [if_neg hh] at hr
      refine am rfl (by exact eq_false_of_ne_true hh) ?_
      repeat' (first | refine aa ?_ | refine ab ?_ | refine au ?_ | refine ax ?_ | refine ae ?_ | ((refine' ak rfl ?_ J J ?_); rotate_left; first | exact a6 J J J J J (by omega) | exact ai af J J J J))
      refine aR (j + 1) [false] ⟨hj, hr⟩ (show l.length - (j + 1) < l.length - j by omega) ⟨J, J, J, J, trivial⟩ rfl
  · rw [List.drop_eq_nil_of_le (by omega)] at hr
    repeat' (first | refine ag ?_ | refine aa ?_ | refine ab ?_ | refine ae ?_ | ((refine' ak rfl ?_ J J ?_); rotate_left; exact aq af J J J J J J))
    refine am rfl (by simp; omega) ?_
    repeat' (first | refine ag ?_ | refine aa ?_ | refine ab ?_ | refine aA ?_ | refine a8 ?_ | refine aH ?_ | refine aN ?_ | refine ae ?_ | ((refine' ak rfl ?_ J J ?_); rotate_left; exact ai af J J J J))
    refine aB af (fun _ => 0) J J trivial rfl fun w hm => ⟨?_, hm.below⟩
    rw [hr]; rfl
set_option maxRecDepth 100000 in
set_option maxHeartbeats 8000000 in
theorem tr (s : ByteArray) (w : World) : Calls Tryz.prog 41 #[.string s] w fun e w' => e = .returned (.bool (eO s)) ∧ Below w.heap.size w w' := by
  refine aD Tryz.func41 rfl Tryz.ntmps41 J J ?_
  repeat' (first | refine ag ?_ | refine aa ?_ | refine ab ?_ | refine ae ?_ | ((refine' ak rfl ?_ J J ?_); rotate_left; first | exact ai af J J J J | exact aq af J J J J J J | exact bp J J J J J | exact aO af J J J J J J J))
  by_cases h0 : 1 ≤ s.size ∧ s.size ≤ 40
  · refine am rfl (by simp; omega) ?_
    repeat' (first | refine ag ?_ | refine aa ?_ | refine ab ?_ | refine au ?_ | refine aE ?_ | refine ae ?_ | ((refine' ak rfl ?_ J J ?_); rotate_left; first | exact ai af J J J J | exact aO af J J J J J J J))
    refine bF (σ := Nat) (fun p => p ≤ s.size ∧ eO s = (s.data.toList.drop p).all vi) (fun p => [(14, [], .int .i64 ((p : Nat) : Int)), (13, [], .int .i64 ((s.size : Nat) : Int)), (0, [], .string s)]) (fun _ => []) (fun p => s.size - p) 0 [] ⟨Nat.zero_le _, by unfold eO; simp [h0.1, h0.2]⟩ ⟨J, J, J, trivial⟩ rfl ?_
    rintro j ⟨hj0, hr⟩
    by_cases hj : j < s.size
    · obtain ⟨c, hc⟩ := qK hj
      have ha := tp hc
      rw [cn hc, List.all_cons] at hr
      repeat' (first | refine ag ?_ | refine aa ?_ | refine ab ?_ | refine ae ?_ | ((refine' ak rfl ?_ J J ?_); rotate_left; exact aq af J J J J J J))
      refine aw rfl (by simp; omega) ?_
      repeat' (first | refine ag ?_ | refine aa ?_ | refine ab ?_ | refine au ?_ | refine aE ?_ | refine ae ?_ | ((refine' ak rfl ?_ J J ?_); rotate_left; first | exact qF af j J J J J J J (fun _ => ⟨rfl, hj⟩) | exact ai af J J J J | exact aq af J J J J J J | exact bp J J J J J | exact bx J J J J J))
      by_cases hh : vi c = true
      · rw [hh, Bool.true_and] at hr
        refine am rfl (by rw [ha]; unfold vi at hh; simp at hh ⊢; omega) ?_
        repeat' (first | refine aa ?_ | refine ab ?_ | refine au ?_ | refine ax ?_ | refine ae ?_ | ((refine' ak rfl ?_ J J ?_); rotate_left; first | exact a6 J J J J J (by omega) | exact ai af J J J J))
        refine aR (j + 1) [] ⟨hj, hr⟩ (show s.size - (j + 1) < s.size - j by omega) ⟨J, J, J, trivial⟩ rfl
      · have hh' := eq_false_of_ne_true hh
        rw [hh', Bool.false_and] at hr
        refine aw rfl (by rw [ha]; unfold vi at hh'; simp at hh' ⊢; omega) ?_
        repeat' (first | refine ag ?_ | refine aa ?_ | refine ab ?_ | refine aA ?_ | refine ar ?_ | refine aQ ?_ | refine ae ?_ | ((refine' ak rfl ?_ J J ?_); rotate_left; exact ai af J J J J))
        refine aB af (fun _ => 0) J J trivial rfl fun w hm => ⟨?_, hm.below⟩
        rw [hr]
    · rw [List.drop_eq_nil_of_le (by rw [Array.length_toList]; show s.size ≤ j; omega)] at hr
      repeat' (first | refine ag ?_ | refine aa ?_ | refine ab ?_ | refine ae ?_ | ((refine' ak rfl ?_ J J ?_); rotate_left; exact aq af J J J J J J))
      refine am rfl (by simp; omega) ?_
      repeat' (first | refine ag ?_ | refine aa ?_ | refine ab ?_ | refine aA ?_ | refine a8 ?_ | refine aH ?_ | refine aN ?_ | refine ae ?_ | ((refine' ak rfl ?_ J J ?_); rotate_left; exact ai af J J J J))
      refine aB af (fun _ => 0) J J trivial rfl fun w hm => ⟨?_, hm.below⟩
      rw [hr]; rfl
  · refine aw rfl (by simp; omega) ?_
    repeat' (first | refine ag ?_ | refine aa ?_ | refine ab ?_ | refine aA ?_ | refine ar ?_ | refine ae ?_ | ((refine' ak rfl ?_ J J ?_); rotate_left; exact ai af J J J J))
    refine aB af (fun _ => 0) J J trivial rfl fun w hm => ⟨?_, hm.below⟩
    refine bi ?_
    unfold eO
    by_cases h1 : 1 ≤ s.size
    · have h2 : ¬ s.size ≤ 40 := fun h => h0 ⟨h1, h⟩
      simp [h2]
    · simp [h1]
def fA (l : List BV) (p : Nat) : Option ByteArray := if p = 0 then none else (l[p - 1]?).map (·.nm)
theorem iY (p : Option ByteArray) (b : BV) (r : List BV) : eM p (b :: r) = if eO b.nm = false then 8 else if (match p with | some x => (Op.bytesLess b.nm.toList x.toList || b.nm.toList == x.toList) | none => false) = true then 11 else if dK b = false then 1 else eM (some b.nm) r := by cases p <;> rfl
def yX (l : List BV) (j : Nat) (v : BV) (rest : Int) : Int := if eO v.nm = false then 8 else if (match fA l j with | some x => (Op.bytesLess v.nm.toList x.toList || v.nm.toList == x.toList) | none => false) = true then 11 else if dK v = false then 1 else rest
theorem yt (s : ByteArray) (b : Bool) (h : eO s = b) (w : World) : Calls Tryz.prog 41 #[.string s] w fun e w' => e = .returned (.bool b) ∧ Below w.heap.size w w' := by subst h; exact tr s w
theorem zl {v : BV} {a b c : Bool} (h1 : gR v.ld = a) (h2 : gR v.bs = b) (h3 : gR v.fl = c) : dK v = (a && b && c && decide (1 ≤ v.wt) && decide (v.wt ≤ 100) && decide (0 ≤ v.ot) && decide (v.ot ≤ 2199023255552)) := by unfold dK; rw [h1, h2, h3]
theorem qL (b2 b3 b4 : Bool) (wt ot : Int) : (!b2 || !b3 || !b4 || decide (wt < 1) || decide (wt > 100) || decide (ot < 0) || decide (ot > 2199023255552)) = !(b2 && b3 && b4 && decide (1 ≤ wt) && decide (wt ≤ 100) && decide (0 ≤ ot) && decide (ot ≤ 2199023255552)) := by
  have h1 : decide (wt < 1) = !decide (1 ≤ wt) := by rw [← decide_not]; congr 1; exact propext ⟨fun h => by omega, fun h => by omega⟩
  have h2 : decide (wt > 100) = !decide (wt ≤ 100) := by rw [← decide_not]; congr 1; exact propext ⟨fun h => by omega, fun h => by omega⟩
  have h3 : decide (ot < 0) = !decide (0 ≤ ot) := by rw [← decide_not]; congr 1; exact propext ⟨fun h => by omega, fun h => by omega⟩
  have h4 : decide (ot > 2199023255552) = !decide (ot ≤ 2199023255552) := by rw [← decide_not]; congr 1; exact propext ⟨fun h => by omega, fun h => by omega⟩
  rw [h1, h2, h3, h4]
  simp only [Bool.not_and]
theorem zm (n : Int) (b : Bool) (h : gR n = b) (w : World) : Calls Tryz.prog 42 #[.int .i64 n] w fun e w' => e = .returned (.bool b) ∧ Below w.heap.size w w' := by subst h; exact oc n w
set_option maxRecDepth 100000 in
set_option maxHeartbeats 8000000 in
theorem tt {A : Nat → Prop} (x : Option Addr) (l : List BV) (cap : Nat) (w : World) (hR : Rws A w 6 bC x l) (hlen : l.length ≤ 2513169434916) : Calls Tryz.prog 16 #[.slice x l.length cap] w fun e w' => e = .returned (.int .i64 (fu l)) ∧ Below w.heap.size w w' := by
  refine aD Tryz.func16 rfl Tryz.ntmps16 J J ?_
  repeat' (first | refine ag ?_ | refine aa ?_ | refine ab ?_ | refine ae ?_ | ((refine' ak rfl ?_ J J ?_); rotate_left; first | exact ai af J J J J | exact aq af J J J J J J | exact aO af J J J J J J J))
  by_cases h8 : 8 < l.length
  · refine aw rfl (by simp; omega) ?_
    repeat' (first | refine ag ?_ | refine aa ?_ | refine ab ?_ | refine aA ?_ | refine ar ?_ | refine ae ?_ | ((refine' ak rfl ?_ J J ?_); rotate_left; exact ai af J J J J))
    refine aB af (fun _ => 0) J J trivial rfl fun w hm => ⟨?_, hm.below⟩
    unfold fu; rw [if_pos h8]
  · refine am rfl (by simp; omega) ?_
    repeat' (first | refine ag ?_ | refine aa ?_ | refine ab ?_ | refine au ?_ | refine aE ?_ | refine ae ?_ | ((refine' ak rfl ?_ J J ?_); rotate_left; first | exact ai af J J J J | exact aO af J J J J J J J))
    refine bF (σ := Nat) (fun p => p ≤ l.length ∧ fu l = eM (fA l p) (l.drop p)) (fun p => [(10, [], .int .i64 ((p : Nat) : Int)), (9, [], .int .i64 ((l.length : Nat) : Int)), (8, [], .slice x l.length cap), (0, [], .slice x l.length cap)]) (fun _ => []) (fun p => l.length - p) 0 [] ⟨Nat.zero_le _, if_neg h8⟩ ⟨J, J, J, J, trivial⟩ rfl ?_
    rintro j ⟨hj0, hr⟩
    by_cases hj : j < l.length
    · skip
      obtain ⟨v, hv⟩ : ∃ v, l[j]? = some v := ⟨l[j], List.getElem?_eq_getElem hj⟩
      obtain ⟨bb, off, rfl, _, _, hrows⟩ := hR (by omega)
      have hrow : w.rangeAt bb (off + j * 6) [.string v.nm, .int .i64 v.ld, .int .i64 v.bs, .int .i64 v.wt, .int .i64 v.fl, .int .i64 v.ot] := hrows j v hv
      rw [cn hv, iY] at hr
      have hpv : fA l (j + 1) = some v.nm := by simp [fA, hv]
      rw [← hpv] at hr
      obtain ⟨b1, hb1⟩ : ∃ b, eO v.nm = b := ⟨_, rfl⟩
      obtain ⟨b2, hb2⟩ : ∃ b, gR v.ld = b := ⟨_, rfl⟩
      obtain ⟨b3, hb3⟩ : ∃ b, gR v.bs = b := ⟨_, rfl⟩
      obtain ⟨b4, hb4⟩ : ∃ b, gR v.fl = b := ⟨_, rfl⟩
      have hbo := zl hb2 hb3 hb4
      have hpr0 : ∃ pv : ByteArray, 0 < j → l[j - 1]?.map (·.nm) = some pv ∧ w.cell? ⟨bb, off + (j - 1) * 6 + 0, none⟩ = some (.string pv) := by
        by_cases hjz : 0 < j
        · have hq : l[j - 1]? = some l[j - 1] := List.getElem?_eq_getElem (by omega)
          exact ⟨l[j - 1].nm, fun _ => ⟨by rw [hq]; rfl, hrows (j - 1) _ hq 0 _ rfl⟩⟩
        · exact ⟨⟨#[]⟩, fun h => absurd h hjz⟩
      obtain ⟨pv, hpr1⟩ := hpr0
      have hpr := fun h => (hpr1 h).2
      have hpx : 0 < j → fA l j = some pv := fun h => by unfold fA; rw [if_neg (by omega)]; exact (hpr1 h).1
      have hgt : ∀ {L : Cd}, aL ((decide ((j : Int) > 0), true) :: L) = true → 0 < j := fun h => by simp [aL] at h; omega
      repeat' (first | refine ag ?_ | refine aa ?_ | refine ab ?_ | refine ae ?_ | ((refine' ak rfl ?_ J J ?_); rotate_left; exact aq af J J J J J J))
      refine aw rfl (by simp; omega) ?_
      repeat' (first | refine ag ?_ | refine aa ?_ | refine ab ?_ | refine au ?_ | refine aE ?_ | refine ae ?_ | (refine aF af J J J J J J ?_; intro g9) | ((refine' ak rfl ?_ J J ?_); rotate_left; first | exact bA af (m := 6) j J J J J J J J J (fun _ => rfl) (fun _ => hj) | exact a7 af J J J J J (fun _ => hrow) | exact ai af J J J J | exact ah af 0 J J J J J) | refine aG rfl (ay J J J J ⟨J, trivial⟩ rfl (by kernel_rfl)) (fun w hm => yt v.nm b1 hb1 w) J J ?_ | refine aj af 0 J J J J J J J J J J J J ?_)
      cases b1 with
      | false =>
        rw [if_pos hb1] at hr
        refine aw J J ?_
        repeat' (first | refine ag ?_ | refine aa ?_ | refine ab ?_ | refine aA ?_ | refine ar ?_ | refine aQ ?_ | refine ae ?_ | ((refine' ak rfl ?_ J J ?_); rotate_left; exact ai af J J J J))
        refine aB af (fun _ => 0) J J trivial rfl fun w hm => ⟨?_, hm.below⟩
        rw [hr]
      | true =>
        rw [if_neg (by rw [hb1]; decide)] at hr
        refine am J J ?_
        repeat' (first | refine ag ?_ | refine ab ?_ | refine aY aK rfl (by kernel_rfl) ?_ | refine ae ?_ | refine bz ?_ | ((refine' dm rfl ?_ J J J ?_); rotate_left; first | exact bA af (m := 6) (j - 1) J J J J J J J J (fun hL => by have := hgt hL; omega) (fun hL => by have := hgt hL; omega) | exact bT af J J J J J (fun hL => hpr (hgt hL)) | exact gX J J J J J (by omega) | exact ai af J J J J | exact aq af J J J J J J | exact bx J J J J J | exact ah af 0 J J J J J))
        by_cases hh : (match fA l j with | some x => (Op.bytesLess v.nm.toList x.toList || v.nm.toList == x.toList) | none => false) = true
        · rw [if_pos hh] at hr
          have hjz : 0 < j := by
            by_cases hjz : 0 < j
            · exact hjz
            · obtain rfl : j = 0 := by omega
              simp [fA] at hh
          rw [hpx hjz] at hh
          refine aw rfl (by simp only [Bool.and_eq_true, decide_eq_true_eq]; exact ⟨by omega, hh⟩) ?_
          repeat' (first | refine ag ?_ | refine aa ?_ | refine ab ?_ | refine aA ?_ | refine ar ?_ | refine aQ ?_ | refine ae ?_ | ((refine' ak rfl ?_ J J ?_); rotate_left; exact ai af J J J J))
          refine aB af (fun _ => 0) J J trivial rfl fun w hm => ⟨?_, hm.below⟩
          rw [hr]
        · rw [if_neg hh] at hr
          refine am rfl (by
            by_cases hjz : 0 < j
            · rw [hpx hjz] at hh
              simp only [Bool.and_eq_false_iff]; exact .inr (eq_false_of_ne_true hh)
            · simp only [Bool.and_eq_false_iff, decide_eq_false_iff_not]; exact .inl (by omega)) ?_
          repeat' (first | refine ag ?_ | refine aa ?_ | refine ab ?_ | refine ae ?_ | ((refine' ak rfl ?_ J J ?_); rotate_left; first | exact ai af J J J J | exact aq af J J J J J J | exact bp J J J J J | exact ah af 0 J J J J J) | refine aG rfl (ay J J J J ⟨J, trivial⟩ rfl (by kernel_rfl)) (fun w hm => zm _ _ (by assumption) w) J J ?_)
          by_cases hb : dK v = true
          · rw [if_neg (by rw [hb]; decide)] at hr
            refine am rfl ((qL b2 b3 b4 v.wt v.ot).trans (by rw [← hbo, hb]; rfl)) ?_
            repeat' (first | refine aa ?_ | refine ab ?_ | refine au ?_ | refine ax ?_ | refine ae ?_ | ((refine' ak rfl ?_ J J ?_); rotate_left; first | exact a6 J J J J J (by omega) | exact ai af J J J J))
            refine aR (j + 1) [false] ⟨hj, hr⟩ (show l.length - (j + 1) < l.length - j by omega) ⟨J, J, J, J, trivial⟩ rfl
          · have hb' := eq_false_of_ne_true hb
            rw [if_pos hb'] at hr
            refine aw rfl ((qL b2 b3 b4 v.wt v.ot).trans (by rw [← hbo, hb']; rfl)) ?_
            repeat' (first | refine ag ?_ | refine aa ?_ | refine ab ?_ | refine aA ?_ | refine ar ?_ | refine aQ ?_ | refine ae ?_ | ((refine' ak rfl ?_ J J ?_); rotate_left; exact ai af J J J J))
            refine aB af (fun _ => 0) J J trivial rfl fun w hm => ⟨?_, hm.below⟩
            rw [hr]
    · rw [List.drop_eq_nil_of_le (by omega)] at hr
      repeat' (first | refine ag ?_ | refine aa ?_ | refine ab ?_ | refine ae ?_ | ((refine' ak rfl ?_ J J ?_); rotate_left; exact aq af J J J J J J))
      refine am rfl (by simp; omega) ?_
      repeat' (first | refine ag ?_ | refine aa ?_ | refine ab ?_ | refine aA ?_ | refine a8 ?_ | refine aH ?_ | refine aN ?_ | refine ae ?_ | ((refine' ak rfl ?_ J J ?_); rotate_left; exact ai af J J J J))
      refine aB af (fun _ => 0) J J trivial rfl fun w hm => ⟨?_, hm.below⟩
      rw [hr]; rfl
end Go.Proofs.YtmdkfbmpenohiaaGreatDoor.Y
namespace Go.Proofs.YtmdkfbmpenohiaaGreatDoor.Y
open Go.RowKit
theorem ec {b : BV} (h : dK b = true) : 0 ≤ b.ld ∧ b.ld ≤ 1000000 ∧ 0 ≤ b.bs ∧ b.bs ≤ 1000000 ∧ 0 ≤ b.fl ∧ b.fl ≤ 1000000 ∧ 1 ≤ b.wt ∧ b.wt ≤ 100 ∧ 0 ≤ b.ot ∧ b.ot ≤ 2199023255552 := by
  unfold dK gR at h
  simp at h
  omega
theorem nv (x y : Int) (h1 : 0 ≤ x) (h2 : x ≤ 2000000) (h3 : 0 ≤ y) (h4 : y ≤ 100) : IntKind.i64.wrap (x * y) = x * y := by
  have h5 : 0 ≤ x * y := Int.mul_nonneg h1 h3
  have h6 : x * y ≤ 2000000 * y := Int.mul_le_mul_of_nonneg_right h2 h3
  exact IntWalk.i64_in _ ⟨by omega, by omega⟩
theorem lw (i : Nat) {w0 w : World} {M : List Ent} {g : Nat} {T : TypeId} {v : Value} {r : List Value} (hM : Mem w0 w M) (hi : dY M i = some (.cl g T (v :: r))) : w.cell? ⟨g, 0, none⟩ = some v := by
  have hb : Bk w g T ⟨v :: r⟩ := (hM.2.get hi).2
  exact hb.at_ 0 rfl
theorem vp (n k r : Int) (h : cp n k = r) (w : World) : Calls Tryz.prog 85 #[.int .i64 n, .int .i64 k] w fun e w' => e = .returned (.int .i64 r) ∧ Below w.heap.size w w' := by subst h; exact jN n k w
theorem eg (f : BV → BV) : ∀ (l : List BV) (k : Nat), (bR f l k).length = l.length
  | [], _ => rfl
  | _ :: _, 0 => rfl
  | _ :: r, k + 1 => by simp [bR, eg f r k]
theorem ei (f : BV → BV) : ∀ (l : List BV) (k : Nat) (v : BV), l[k]? = some v → bR f l k = l.set k (f v)
  | [], k, v, h => by simp at h
  | x :: r, 0, v, h => by obtain rfl := (by simpa using h); rfl
  | x :: r, k + 1, v, h => by simp [bR, ei f r k v (by simpa using h)]
set_option maxRecDepth 100000 in
set_option maxHeartbeats 8000000 in
theorem vq (a b : BV) (now : Int) (g : Nat) (w : World) (ha : dK a = true) (hb : dK b = true) (hc : w.cell? ⟨g, 0, none⟩ = some (.int .i64 now)) : Calls Tryz.prog 86 #[.agg #[.string a.nm, .int .i64 a.ld, .int .i64 a.bs, .int .i64 a.wt, .int .i64 a.fl, .int .i64 a.ot], .agg #[.string b.nm, .int .i64 b.ld, .int .i64 b.bs, .int .i64 b.wt, .int .i64 b.fl, .int .i64 b.ot], .pointer (some ⟨g, 0, none⟩)] w fun e w' => e = .returned (.bool (jm now a b)) ∧ Below w.heap.size w w' := by
  have h1 := ec ha
  have h2 := ec hb
  refine aD Tryz.func86 rfl Tryz.ntmps86 J J ?_
  repeat' (first | refine ag ?_ | refine aa ?_ | refine ab ?_ | refine aY aK rfl (by kernel_rfl) ?_ | refine ae ?_ | refine bz ?_ | (refine aT J J J J J J ?_; intro g1) | ((first | refine' ak rfl ?_ J J ?_ | refine' dm rfl ?_ J J J ?_); rotate_left; first | exact bT af J J J J J (fun _ => hc) | exact ai af J J J J | exact aq af J J J J J J | exact ah af 0 J J J J J | exact ah af 1 J J J J J))
  by_cases hd : decide (a.ot ≤ now) = decide (b.ot ≤ now)
  · refine am rfl (by rw [hd]; simp) ?_
    repeat' (first | refine ag ?_ | refine aa ?_ | refine ab ?_ | refine aA ?_ | refine au ?_ | refine aY aK rfl (by kernel_rfl) ?_ | refine ae ?_ | refine bz ?_ | ((first | refine' ak rfl ?_ J J ?_ | refine' dm rfl ?_ J J J ?_); rotate_left; first | exact a6 J J J J J (by omega) | exact dg (v := .int .i64 ((a.bs + a.ld) * b.wt)) (aq af J J J J J J) (congrArg (Value.int .i64) (nv _ _ (by omega) (by omega) (by omega) (by omega))) | exact dg (v := .int .i64 ((b.bs + b.ld) * a.wt)) (aq af J J J J J J) (congrArg (Value.int .i64) (nv _ _ (by omega) (by omega) (by omega) (by omega))) | exact ai af J J J J | exact aq af J J J J J J | exact bp J J J J J | exact bx J J J J J | exact ah af 0 J J J J J | exact ah af 1 J J J J J))
    refine aB af (fun _ => 0) J J trivial rfl fun w hm => ⟨?_, hm.below⟩
    refine bi ?_
    unfold jm pA
    rw [if_pos hd]
    simp [Bool.beq_eq_decide_eq]
  · refine aw rfl (by simpa using hd) ?_
    repeat' (first | refine ag ?_ | refine aa ?_ | refine ab ?_ | refine aA ?_ | refine ar ?_ | refine ae ?_ | ((refine' ak rfl ?_ J J ?_); rotate_left; exact ai af J J J J))
    refine aB af (fun _ => 0) J J trivial rfl fun w hm => ⟨?_, hm.below⟩
    refine bi ?_
    unfold jm
    rw [if_neg hd]
def mx : Option (Nat × BV) → Int
  | none => -1
  | some (k, _) => k
theorem fO (now : Int) (x : BV) (r : List BV) (i k : Nat) (b : BV) : cZ now (x :: r) i (some (k, b)) = cZ now r (i + 1) (if jm now x b = true then some (i, x) else some (k, b)) := rfl
theorem kq (now : Int) (x : BV) (r : List BV) (i : Nat) : cZ now (x :: r) i none = cZ now r (i + 1) (some (i, x)) := rfl
set_option maxRecDepth 100000 in
set_option maxHeartbeats 8000000 in
theorem tu {A : Nat → Prop} (x : Option Addr) (l : List BV) (cap : Nat) (now : Int) (w : World) (hR : Rws A w 6 bC x l) (hlen : l.length ≤ 2513169434916) (hok : ∀ b ∈ l, dK b = true) : Calls Tryz.prog 51 #[.slice x l.length cap, .int .i64 now] w fun e w' => e = .returned (.int .i64 (match cK now l with | some k => (k : Int) | none => -1)) ∧ Below w.heap.size w w' := by
  refine aD Tryz.func51 rfl Tryz.ntmps51 J J ?_
  repeat' (first | refine ag ?_ | refine aa ?_ | refine ab ?_ | refine aE ?_ | refine ae ?_ | (refine aT J J J J J J ?_; intro g) | ((refine' ak rfl ?_ J J ?_); rotate_left; first | exact sO J J trivial rfl ⟨J, trivial⟩ | exact ai af J J J J | exact ah af 0 J J J J J | exact aO af J J J J J J J) | refine aG rfl (ay J J J J ⟨J, J, trivial⟩ rfl (by kernel_rfl)) (fun w hm => jN now 1099511627776 w) J J ?_ | refine aj af 0 J J J J J J J J J J J J ?_)
  refine bF (σ := Nat × Option (Nat × BV)) (fun p => p.1 ≤ l.length ∧ cZ (bI now) l 0 none = cZ (bI now) (l.drop p.1) p.1 p.2 ∧ ∀ k b, p.2 = some (k, b) → l[k]? = some b) (fun p => [(13, [], .int .i64 ((p.1 : Nat) : Int)), (12, [], .int .i64 ((l.length : Nat) : Int)), (6, [], .int .i64 (mx p.2)), (5, [], .func (.func 86) ⟨[]⟩ ⟨[.pointer (some ⟨g, 0, none⟩)]⟩), (0, [], .slice x l.length cap)]) (fun _ => [.cl g 3 [.int .i64 (cp now 1099511627776)]]) (fun p => l.length - p.1) (0, none) [true] ⟨Nat.zero_le _, rfl, fun _ _ h => by cases h⟩ ⟨J, J, J, J, J, trivial⟩ rfl ?_
  rintro ⟨j, best⟩ ⟨hj0, hr, hbest⟩
  dsimp only at hj0 hr hbest ⊢
  by_cases hj : j < l.length
  · skip
    obtain ⟨v, hv⟩ : ∃ v, l[j]? = some v := ⟨l[j], List.getElem?_eq_getElem hj⟩
    obtain ⟨bb, off, rfl, _, _, hrows⟩ := hR (by omega)
    have hrow : w.rangeAt bb (off + j * 6) [.string v.nm, .int .i64 v.ld, .int .i64 v.bs, .int .i64 v.wt, .int .i64 v.fl, .int .i64 v.ot] := hrows j v hv
    repeat' (first | refine ag ?_ | refine aa ?_ | refine ab ?_ | refine ae ?_ | ((refine' ak rfl ?_ J J ?_); rotate_left; exact aq af J J J J J J))
    refine aw rfl (by simp; omega) ?_
    cases best with
    | none =>
      rw [cn hv, kq] at hr
      repeat' (first | refine ag ?_ | refine aa ?_ | refine ab ?_ | refine au ?_ | refine aE ?_ | refine aY aK rfl (by kernel_rfl) ?_ | refine ae ?_ | refine bz ?_ | ((first | refine' ak rfl ?_ J J ?_ | refine' dm rfl ?_ J J J ?_); rotate_left; first | exact kX (.bool false) rfl | exact ai af J J J J | exact aq af J J J J J J | exact bp J J J J J))
      refine aw J J ?_
      repeat' (first | refine aa ?_ | refine ab ?_ | refine ax ?_ | refine ae ?_ | ((refine' ak rfl ?_ J J ?_); rotate_left; first | exact a6 J J J J J (by omega) | exact ai af J J J J))
      refine aR (j + 1, some (j, v)) [true] ⟨hj, hr, fun k b h => by obtain ⟨rfl, rfl⟩ := (by simpa using h : j = k ∧ v = b); exact hv⟩ (show l.length - (j + 1) < l.length - j by omega) ⟨J, J, J, J, J, trivial⟩ rfl
    | some kb =>
      obtain ⟨k, b⟩ := kb
      have hkb := hbest k b rfl
      have hk1 : k < l.length := (List.getElem?_eq_some_iff.1 hkb).1
      have hrow2 : w.rangeAt bb (off + k * 6) [.string b.nm, .int .i64 b.ld, .int .i64 b.bs, .int .i64 b.wt, .int .i64 b.fl, .int .i64 b.ot] := hrows k b hkb
      have hv1 := hok v (List.mem_of_getElem? hv)
      have hb1 := hok b (List.mem_of_getElem? hkb)
      rw [cn hv, fO] at hr
      have hgk : ∀ (m : Nat), decide ((m : Int) < 0) = false := fun m => by simp
      repeat' (first | refine ag ?_ | refine aa ?_ | refine ab ?_ | refine au ?_ | refine aE ?_ | refine aY aK rfl (by kernel_rfl) ?_ | refine ae ?_ | refine bz ?_ | ((first | refine' ak rfl ?_ J J ?_ | refine' dm rfl ?_ J J J ?_); rotate_left; first | exact bA af (m := 6) j J J J J J J J J (fun _ => rfl) (fun _ => hj) | exact bA af (m := 6) k J J J J J J J J (fun _ => rfl) (fun _ => hk1) | exact a7 af J J J J J (fun _ => hrow) | exact a7 af J J J J J (fun _ => hrow2) | exact ai af J J J J | exact aq af J J J J J J | exact bp J J J J J) | refine bY rfl (ay J J J J ⟨J, J, trivial⟩ rfl (by kernel_rfl)) rfl (fun w hm => vq v b (bI now) g w hv1 hb1 (lw 0 hm rfl)) J J ?_)
      by_cases hb : jm (bI now) v b = true
      · rw [if_pos hb] at hr
        refine aw rfl (by rw [hb]; simp) ?_
        repeat' (first | refine aa ?_ | refine ab ?_ | refine ax ?_ | refine ae ?_ | ((refine' ak rfl ?_ J J ?_); rotate_left; first | exact a6 J J J J J (by omega) | exact ai af J J J J))
        refine aR (j + 1, some (j, v)) [true] ⟨hj, hr, fun k b h => by obtain ⟨rfl, rfl⟩ := (by simpa using h : j = k ∧ v = b); exact hv⟩ (show l.length - (j + 1) < l.length - j by omega) ⟨J, J, J, J, J, trivial⟩ rfl
      · rw [if_neg hb] at hr
        refine am rfl (by rw [eq_false_of_ne_true hb]; simp only [mx, Bool.or_false]; exact hgk k) ?_
        repeat' (first | refine aa ?_ | refine ab ?_ | refine au ?_ | refine ax ?_ | refine ae ?_ | ((refine' ak rfl ?_ J J ?_); rotate_left; first | exact a6 J J J J J (by omega) | exact ai af J J J J))
        refine aR (j + 1, some (k, b)) [true] ⟨hj, hr, hbest⟩ (show l.length - (j + 1) < l.length - j by omega) ⟨J, J, J, J, J, trivial⟩ rfl
  · rw [List.drop_eq_nil_of_le (by omega)] at hr
    repeat' (first | refine ag ?_ | refine aa ?_ | refine ab ?_ | refine ae ?_ | ((refine' ak rfl ?_ J J ?_); rotate_left; exact aq af J J J J J J))
    refine am rfl (by simp; omega) ?_
    repeat' (first | refine ag ?_ | refine aa ?_ | refine ab ?_ | refine aA ?_ | refine a8 ?_ | refine aH ?_ | refine aN ?_ | refine ae ?_ | ((refine' ak rfl ?_ J J ?_); rotate_left; exact ai af J J J J))
    refine aB af (fun _ => 0) J J trivial rfl fun w hm => ⟨?_, hm.below⟩
    refine cx ?_
    unfold cK
    rw [hr]
    cases best with
    | none => rfl
    | some kb => rfl
theorem tv {l : List BV} {k : Nat} {v : BV} (h : l[k]? = some v) (u : BV) : (l.set k u)[k]? = some u := by
  rw [List.getElem?_set_self]
  exact (List.getElem?_eq_some_iff.1 h).1
set_option maxRecDepth 100000 in
set_option maxHeartbeats 8000000 in
theorem tw {w0 : World} {M : List Ent} (g cap : Nat) (l : List BV) (k : Nat) (v : BV) (hk : l[k]? = some v) (hv : dK v = true) (w : World) (hM : Mem w0 w (.own (some ⟨g, 0, none⟩) cap 64 6 l.length ((l).flatMap bC) :: M)) : Calls Tryz.prog 88 #[.pointer (some ⟨g, 0 + k * 6, none⟩)] w fun e w' => ∃ u, True ∧ e = .returned u ∧ Mem w0 w' (.own (some ⟨g, 0, none⟩) cap 64 6 l.length ((bR cG l k).flatMap bC) :: M) := by
  rw [Nat.zero_add]
  refine iv hM Tryz.func88 rfl Tryz.ntmps88 J J ?_
  have hr := ec hv
  rw [ei cG l k v hk]
  obtain ⟨r, hb⟩ : ∃ r, cp (v.bs + 1) 1000000 = r := ⟨_, rfl⟩
  repeat' (first | refine aa ?_ | ((refine' ak rfl ?_ J J ?_); rotate_left; first | exact cw af 0 J J J J J J (fun _ => br cr hk (k := 2) rfl) | exact a6 J J J J J (by omega) | exact ai af J J J J) | refine aG rfl (ay J J J J ⟨J, J, trivial⟩ rfl (by kernel_rfl)) (fun w hm => vp _ _ _ hb w) J J ?_)
  refine ce af 0 J J J J J J J J J (bS cr (l) k 2 (v) (cG v) _ hk (by rw [← hb]; rfl)) J J ?_
  repeat' (refine ae ?_)
  refine hJ af (fun _ => 0) J J trivial rfl fun w1 hm => ⟨_, trivial, rfl, hm⟩
theorem wC (n e : Int) (h1 : 0 ≤ n) (h2 : n ≤ 1099511627776) (h3 : 0 ≤ e) (h4 : e ≤ 64000) : IntKind.i64.wrap (n + e) = n + e := IntWalk.i64_in _ ⟨by omega, by omega⟩
theorem yu (f : Int) (h : 3 ≤ f) : IntKind.i64.wrap (1000 * 2 ^ (min (if 6 < f - 3 then 6 else f - 3).toNat IntKind.i64.bits)) = 1000 * 2 ^ (min (f - 3) 6).toNat := by
  have h1 : (if 6 < f - 3 then 6 else f - 3) = min (f - 3) 6 := by split <;> omega
  have h2 : (min (f - 3) 6).toNat = 0 ∨ (min (f - 3) 6).toNat = 1 ∨ (min (f - 3) 6).toNat = 2 ∨ (min (f - 3) 6).toNat = 3 ∨ (min (f - 3) 6).toNat = 4 ∨ (min (f - 3) 6).toNat = 5 ∨ (min (f - 3) 6).toNat = 6 := by omega
  rw [h1]
  rcases h2 with h | h | h | h | h | h | h <;> rw [h] <;> decide
theorem lx (f : Int) : (0 : Int) ≤ 1000 * 2 ^ (min (f - 3) 6).toNat ∧ (1000 : Int) * 2 ^ (min (f - 3) 6).toNat ≤ 64000 := by
  have h2 : (min (f - 3) 6).toNat = 0 ∨ (min (f - 3) 6).toNat = 1 ∨ (min (f - 3) 6).toNat = 2 ∨ (min (f - 3) 6).toNat = 3 ∨ (min (f - 3) 6).toNat = 4 ∨ (min (f - 3) 6).toNat = 5 ∨ (min (f - 3) 6).toNat = 6 := by omega
  rcases h2 with h | h | h | h | h | h | h <;> rw [h] <;> decide
set_option maxRecDepth 100000 in
set_option maxHeartbeats 8000000 in
theorem tz {w0 : World} {M : List Ent} (g cap : Nat) (l : List BV) (k : Nat) (v : BV) (hk : l[k]? = some v) (hv : dK v = true) (gc gn : Nat) (code now : Int) (w : World) (hcc : w0.cell? ⟨gc, 0, none⟩ = some (.int .i64 code)) (hcn : w0.cell? ⟨gn, 0, none⟩ = some (.int .i64 now)) (hnow : now = bI now) (hM : Mem w0 w (.own (some ⟨g, 0, none⟩) cap 64 6 l.length ((l).flatMap bC) :: M)) : Calls Tryz.prog 115 #[.pointer (some ⟨g, 0 + k * 6, none⟩), .pointer (some ⟨gc, 0, none⟩), .pointer (some ⟨gn, 0, none⟩)] w fun e w' => ∃ u, True ∧ e = .returned u ∧ Mem w0 w' (.own (some ⟨g, 0, none⟩) cap 64 6 l.length ((bR (db code now) l k).flatMap bC) :: M) := by
  rw [Nat.zero_add]
  refine iv hM Tryz.func115 rfl Tryz.ntmps115 J J ?_
  have hr := ec hv
  rw [ei (db code now) l k v hk]
  obtain ⟨r, hb⟩ : ∃ r, cp (v.bs - 1) 1000000 = r := ⟨_, rfl⟩
  obtain ⟨f, hf⟩ : ∃ r, cp (v.fl + 1) 1000000 = r := ⟨_, rfl⟩
  have hk1 := tv hk { v with bs := r }
  have hk2 := tv hk1 { v with bs := r, fl := f }
  have hnr : 0 ≤ now ∧ now ≤ 1099511627776 := by unfold bI cp at hnow; omega
  have hp := lx f
  have hfr : f ≤ 1000000 := by unfold cp at hf; omega
  repeat' (first | refine ag ?_ | refine aa ?_ | ((refine' ak rfl ?_ J J ?_); rotate_left; first | exact cw af 0 J J J J J J (fun _ => br cr hk (k := 2) rfl) | exact gX J J J J J (by omega) | exact ai af J J J J) | refine aG rfl (ay J J J J ⟨J, J, trivial⟩ rfl (by kernel_rfl)) (fun w hm => vp _ _ _ hb w) J J ?_)
  refine ce af 0 J J J J J J J J J (bS cr (l) k 2 (v) ({ v with bs := r }) _ hk rfl) J J ?_
  repeat' (first | refine ag ?_ | refine aa ?_ | refine ab ?_ | refine aE ?_ | refine ae ?_ | ((refine' ak rfl ?_ J J ?_); rotate_left; first | exact bT af J J J J J (fun _ => hcc) | exact ai af J J J J | exact aq af J J J J J J))
  by_cases hfc : jn code = true
  · have he : db code now v = if 3 ≤ f then { v with bs := r, fl := f, ot := now + 1000 * 2 ^ (min (f - 3) 6).toNat } else { v with bs := r, fl := f } := by
      unfold db; simp only [hb, hf, hfc, if_true, ← hnow]
    rw [he]
    have hcs : code = 12 ∨ code = 11 ∨ code = 13 ∨ code = 3 := by unfold jn at hfc; simp at hfc; omega
    clear hfc he
    by_cases hf3 : 3 ≤ f
    · rw [if_pos hf3]
      rcases hcs with rfl | rfl | rfl | rfl
      all_goals
        repeat' (first | refine ag ?_ | refine aa ?_ | refine ab ?_ | refine au ?_ | refine ae ?_ | ((refine' ak rfl ?_ J J ?_); rotate_left; first | exact cw af 0 (v := .int .i64 v.fl) J J J J J J (fun _ => br cr hk1 (k := 4) rfl) | exact a6 J J J J J (by omega) | exact ai af J J J J | exact aq af J J J J J J) | refine aG rfl (ay J J J J ⟨J, J, trivial⟩ rfl (by kernel_rfl)) (fun w hm => vp _ _ _ hf w) J J ?_ | (first | refine aw J J ?_ | refine am J J ?_))
        refine ce af 0 J J J J J J J J J (bS cr (l.set k { v with bs := r }) k 4 ({ v with bs := r }) ({ v with bs := r, fl := f }) _ hk1 rfl) J J ?_
        repeat' (first | refine ag ?_ | refine aa ?_ | refine ab ?_ | refine ae ?_ | ((refine' ak rfl ?_ J J ?_); rotate_left; first | exact cw af 0 (v := .int .i64 f) J J J J J J (fun _ => br cr hk2 (k := 4) rfl) | exact ai af J J J J | exact aq af J J J J J J))
        refine aw rfl (by simpa using hf3) ?_
        repeat' (first | refine ag ?_ | refine aa ?_ | refine ab ?_ | refine aA ?_ | refine au ?_ | refine aE ?_ | refine a8 ?_ | refine ar ?_ | refine aH ?_ | refine ax ?_ | refine aQ ?_ | refine aN ?_ | refine cu rfl ?_ | refine aY aK rfl (by kernel_rfl) ?_ | refine ae ?_ | refine bz ?_ | (refine ea ?_; intro g) | ((first | refine' ak rfl ?_ J J ?_ | refine' dm rfl ?_ J J J ?_); rotate_left; first | exact cw af 0 (v := .int .i64 f) J J J J J J (fun _ => br cr hk2 (k := 4) rfl) | exact bT af J J J J J (fun _ => hcn) | exact gX J J J J J (by omega) | exact dg (v := .int .i64 (1000 * 2 ^ (min (f - 3) 6).toNat)) (sN J J J J J J (fun _ => by split <;> omega)) (congrArg (Value.int .i64) (yu f hf3)) | exact dg (v := .int .i64 (now + 1000 * 2 ^ (min (f - 3) 6).toNat)) (aq af J J J J J J) (congrArg (Value.int .i64) (wC now _ hnr.1 hnr.2 hp.1 hp.2)) | exact ai af J J J J | exact aq af J J J J J J | exact bp J J J J J | exact bx J J J J J | exact ah af 0 J J J J J | exact ah af 1 J J J J J | exact ah af 2 J J J J J | exact aO af J J J J J J J | exact cV J J J J J | exact aC af J J trivial J J J | exact aC af J J ⟨J, trivial⟩ J J J | exact aC af J J ⟨J, J, trivial⟩ J J J | exact aC af J J ⟨J, J, J, trivial⟩ J J J | exact aC af J J ⟨J, J, J, J, trivial⟩ J J J | exact aC af J J ⟨J, J, J, J, J, trivial⟩ J J J) | (refine aT J J J J J J ?_; intro g) | (refine aF af J J J J J J ?_; intro g) | refine aj af 0 J J J J J J J J J J J J ?_ | refine aj af 1 J J J J J J J J J J J J ?_ | refine aj af 2 J J J J J J J J J J J J ?_)
        refine ce af 0 J J J J J J J J J (bS cr ((l.set k { v with bs := r }).set k { v with bs := r, fl := f }) k 5 ({ v with bs := r, fl := f }) ({ v with bs := r, fl := f, ot := now + 1000 * 2 ^ (min (f - 3) 6).toNat }) _ hk2 rfl) J J ?_
        repeat' (first | refine ax ?_ | refine ae ?_)
        refine hJ af (fun _ => 0) J J trivial rfl fun w1 hm => ⟨_, trivial, rfl, ?_⟩
        rw [List.set_set, List.set_set] at hm
        exact hm
    · rw [if_neg hf3]
      rcases hcs with rfl | rfl | rfl | rfl
      all_goals
        repeat' (first | refine ag ?_ | refine aa ?_ | refine ab ?_ | refine au ?_ | refine ae ?_ | ((refine' ak rfl ?_ J J ?_); rotate_left; first | exact cw af 0 (v := .int .i64 v.fl) J J J J J J (fun _ => br cr hk1 (k := 4) rfl) | exact a6 J J J J J (by omega) | exact ai af J J J J | exact aq af J J J J J J) | refine aG rfl (ay J J J J ⟨J, J, trivial⟩ rfl (by kernel_rfl)) (fun w hm => vp _ _ _ hf w) J J ?_ | (first | refine aw J J ?_ | refine am J J ?_))
        refine ce af 0 J J J J J J J J J (bS cr (l.set k { v with bs := r }) k 4 ({ v with bs := r }) ({ v with bs := r, fl := f }) _ hk1 rfl) J J ?_
        repeat' (first | refine ag ?_ | refine aa ?_ | refine ab ?_ | refine ae ?_ | ((refine' ak rfl ?_ J J ?_); rotate_left; first | exact cw af 0 (v := .int .i64 f) J J J J J J (fun _ => br cr hk2 (k := 4) rfl) | exact ai af J J J J | exact aq af J J J J J J))
        refine am rfl (by simpa using hf3) ?_
        repeat' (first | refine au ?_ | refine ax ?_)
        refine hJ af (fun _ => 0) J J trivial rfl fun w1 hm => ⟨_, trivial, rfl, ?_⟩
        rw [List.set_set] at hm
        exact hm
  · have hcs : code ≠ 12 ∧ code ≠ 11 ∧ code ≠ 13 ∧ code ≠ 3 := by unfold jn at hfc; simp at hfc; omega
    obtain ⟨hc1, hc2, hc3, hc4⟩ := hcs
    have he : db code now v = if code = 0 then { v with bs := r, fl := 0 } else { v with bs := r } := by
      unfold db; simp only [hb, hfc, Bool.false_eq_true, if_false]
    rw [he]
    clear hfc he
    by_cases h0 : code = 0
    · subst h0
      rw [if_pos rfl]
      repeat' (first | refine ag ?_ | refine aa ?_ | refine ab ?_ | refine ae ?_ | ((refine' ak rfl ?_ J J ?_); rotate_left; first | exact ai af J J J J | exact aq af J J J J J J) | (first | refine aw J J ?_ | refine am J J ?_))
      refine ce af 0 J J J J J J J J J (bS cr (l.set k { v with bs := r }) k 4 ({ v with bs := r }) ({ v with bs := r, fl := 0 }) _ hk1 rfl) J J ?_
      repeat' (first | refine ax ?_ | refine ae ?_)
      refine hJ af (fun _ => 0) J J trivial rfl fun w1 hm => ⟨_, trivial, rfl, ?_⟩
      rw [List.set_set] at hm
      exact hm
    · rw [if_neg h0]
      repeat' (first | refine ag ?_ | refine aa ?_ | refine ab ?_ | refine au ?_ | refine ax ?_ | refine ae ?_ | ((refine' ak rfl ?_ J J ?_); rotate_left; first | exact ai af J J J J | exact aq af J J J J J J) | (refine am rfl (by simp; omega) ?_))
      refine hJ af (fun _ => 0) J J trivial rfl fun w1 hm => ⟨_, trivial, rfl, ?_⟩
      exact hm
set_option maxRecDepth 100000 in
set_option maxHeartbeats 8000000 in
theorem pW {A : Nat → Prop} (x : Option Addr) (l : List BV) (cap : Nat) (k : Nat) (v : BV) (w : World) (hR : Rws A w 6 bC x l) (hlen : l.length ≤ 2513169434916) (hk : l[k]? = some v) (hv : dK v = true) : Calls Tryz.prog 87 #[.slice x l.length cap, .int .i64 ((k : Nat) : Int), .func (.func 88) ⟨[]⟩ ⟨[]⟩] w fun e w' => ∃ p : Option Addr × Nat, True ∧ e = .returned (.slice p.1 l.length p.2) ∧ Made w w' [.own p.1 p.2 64 6 l.length ((bR cG l k).flatMap bC)] := by
  refine aD Tryz.func87 rfl Tryz.ntmps87 J J ?_
  have hkl : k < l.length := (List.getElem?_eq_some_iff.1 hk).1
  repeat' (first | refine ag ?_ | refine aa ?_ | refine ab ?_ | refine ae ?_ | ((refine' ak rfl ?_ J J ?_); rotate_left; exact ai af J J J J))
  refine bf (σ := Option Addr × Nat) (fun _ => True) (fun p => .slice p.1 l.length p.2) (fun p => [.own p.1 p.2 64 6 l.length ((l).flatMap bC)]) rfl (ay J J J J ⟨J, trivial⟩ rfl (by kernel_rfl)) (fun w1 hm => gD x l cap w1 (hR.below hm.below) (by omega)) J J ?_
  rintro ⟨pa, pc⟩ -
  dsimp only [List.cons_append, List.nil_append]
  repeat' (first | refine ag ?_ | refine aa ?_ | refine ab ?_ | refine ae ?_ | ((refine' ak rfl ?_ J J ?_); rotate_left; first | exact ai af J J J J | exact aq af J J J J J J | exact bx J J J J J | exact aO af J J J J J J J))
  refine aw rfl (by simp; omega) ?_
  refine jL 0 rfl (by omega) ?_
  rintro g2 rfl
  repeat' (first | refine aa ?_ | ((refine' ak rfl ?_ J J ?_); rotate_left; first | exact bA af (m := 6) k J J J J J J J J (fun _ => rfl) (fun _ => hkl) | exact ai af J J J J))
  refine bX (σ := Value) (fun _ => True) (fun u => u) (fun _ => [.own (some ⟨g2, 0, none⟩) pc 64 6 l.length ((bR cG l k).flatMap bC)]) rfl (ay J J J J ⟨J, trivial⟩ rfl (by kernel_rfl)) (fun w hM => tw g2 pc l k v hk hv w hM) J J ?_
  intro u _
  repeat' (first | refine ag ?_ | refine aa ?_ | refine ab ?_ | refine aA ?_ | refine ae ?_ | ((refine' ak rfl ?_ J J ?_); rotate_left; exact ai af J J J J))
  refine aB af (fun _ => 0) J J trivial rfl fun w1 hm => ⟨(some ⟨g2, 0, none⟩, pc), trivial, rfl, Made.of hm (fun e he F p hep => by
    have he' := List.mem_singleton.1 he
    rw [hep] at he'; cases he')⟩
set_option maxRecDepth 100000 in
set_option maxHeartbeats 8000000 in
theorem pX {A : Nat → Prop} (x : Option Addr) (l : List BV) (cap : Nat) (k : Nat) (v : BV) (gc gn : Nat) (code now : Int) (w : World) (hR : Rws A w 6 bC x l) (hlen : l.length ≤ 2513169434916) (hk : l[k]? = some v) (hv : dK v = true) (hcc : w.cell? ⟨gc, 0, none⟩ = some (.int .i64 code)) (hcn : w.cell? ⟨gn, 0, none⟩ = some (.int .i64 now)) (hnow : now = bI now) : Calls Tryz.prog 87 #[.slice x l.length cap, .int .i64 ((k : Nat) : Int), .func (.func 115) ⟨[]⟩ ⟨[.pointer (some ⟨gc, 0, none⟩), .pointer (some ⟨gn, 0, none⟩)]⟩] w fun e w' => ∃ p : Option Addr × Nat, True ∧ e = .returned (.slice p.1 l.length p.2) ∧ Made w w' [.own p.1 p.2 64 6 l.length ((bR (db code now) l k).flatMap bC)] := by
  refine aD Tryz.func87 rfl Tryz.ntmps87 J J ?_
  have hkl : k < l.length := (List.getElem?_eq_some_iff.1 hk).1
  repeat' (first | refine ag ?_ | refine aa ?_ | refine ab ?_ | refine ae ?_ | ((refine' ak rfl ?_ J J ?_); rotate_left; exact ai af J J J J))
  refine bf (σ := Option Addr × Nat) (fun _ => True) (fun p => .slice p.1 l.length p.2) (fun p => [.own p.1 p.2 64 6 l.length ((l).flatMap bC)]) rfl (ay J J J J ⟨J, trivial⟩ rfl (by kernel_rfl)) (fun w1 hm => gD x l cap w1 (hR.below hm.below) (by omega)) J J ?_
  rintro ⟨pa, pc⟩ -
  dsimp only [List.cons_append, List.nil_append]
  repeat' (first | refine ag ?_ | refine aa ?_ | refine ab ?_ | refine ae ?_ | ((refine' ak rfl ?_ J J ?_); rotate_left; first | exact ai af J J J J | exact aq af J J J J J J | exact bx J J J J J | exact aO af J J J J J J J))
  refine aw rfl (by simp; omega) ?_
  refine jL 0 rfl (by omega) ?_
  rintro g2 rfl
  repeat' (first | refine aa ?_ | ((refine' ak rfl ?_ J J ?_); rotate_left; first | exact bA af (m := 6) k J J J J J J J J (fun _ => rfl) (fun _ => hkl) | exact ai af J J J J))
  refine bX (σ := Value) (fun _ => True) (fun u => u) (fun _ => [.own (some ⟨g2, 0, none⟩) pc 64 6 l.length ((bR (db code now) l k).flatMap bC)]) rfl (ay J J J J ⟨J, trivial⟩ rfl (by kernel_rfl)) (fun w hM => tz g2 pc l k v hk hv gc gn code now w hcc hcn hnow hM) J J ?_
  intro u _
  repeat' (first | refine ag ?_ | refine aa ?_ | refine ab ?_ | refine aA ?_ | refine ae ?_ | ((refine' ak rfl ?_ J J ?_); rotate_left; exact ai af J J J J))
  refine aB af (fun _ => 0) J J trivial rfl fun w1 hm => ⟨(some ⟨g2, 0, none⟩, pc), trivial, rfl, Made.of hm (fun e he F p hep => by
    have he' := List.mem_singleton.1 he
    rw [hep] at he'; cases he')⟩
set_option maxRecDepth 100000 in
set_option maxHeartbeats 8000000 in
theorem tA {A : Nat → Prop} (x : Option Addr) (l : List BV) (cap : Nat) (k : Nat) (v : BV) (w : World) (hR : Rws A w 6 bC x l) (hlen : l.length ≤ 2513169434916) (hk : l[k]? = some v) (hv : dK v = true) : Calls Tryz.prog 52 #[.slice x l.length cap, .int .i64 ((k : Nat) : Int)] w fun e w' => ∃ p : Option Addr × Nat, True ∧ e = .returned (.slice p.1 l.length p.2) ∧ Made w w' [.own p.1 p.2 64 6 l.length ((bR cG l k).flatMap bC)] := by
  refine aD Tryz.func52 rfl Tryz.ntmps52 J J ?_
  repeat' (first | refine ag ?_ | refine aa ?_ | refine ab ?_ | refine ae ?_ | ((refine' ak rfl ?_ J J ?_); rotate_left; exact ai af J J J J))
  refine bf (σ := Option Addr × Nat) (fun _ => True) (fun p => .slice p.1 l.length p.2) (fun p => [.own p.1 p.2 64 6 l.length ((bR cG l k).flatMap bC)]) rfl (ay J J J J ⟨J, J, J, trivial⟩ rfl (by kernel_rfl)) (fun w1 hm => pW x l cap k v w1 (hR.below hm.below) hlen hk hv) J J ?_
  rintro ⟨pa, pc⟩ -
  repeat' (first | refine ab ?_ | refine aA ?_ | refine ae ?_ | ((refine' ak rfl ?_ J J ?_); rotate_left; exact ai af J J J J))
  refine aB af (fun _ => 0) J J trivial rfl fun w1 hm => ⟨(pa, pc), trivial, rfl, Made.of hm (fun e he F p hep => by
    have he' := List.mem_singleton.1 he
    rw [hep] at he'; cases he')⟩
set_option maxRecDepth 100000 in
set_option maxHeartbeats 8000000 in
theorem tB {A : Nat → Prop} (x : Option Addr) (l : List BV) (cap : Nat) (k : Nat) (v : BV) (code now : Int) (w : World) (hR : Rws A w 6 bC x l) (hlen : l.length ≤ 2513169434916) (hk : l[k]? = some v) (hv : dK v = true) : Calls Tryz.prog 91 #[.slice x l.length cap, .int .i64 ((k : Nat) : Int), .int .i64 code, .int .i64 now] w fun e w' => ∃ p : Option Addr × Nat, True ∧ e = .returned (.slice p.1 l.length p.2) ∧ Made w w' [.own p.1 p.2 64 6 l.length ((bR (db code (bI now)) l k).flatMap bC)] := by
  have hck : bI now = bI (bI now) := by unfold bI cp; omega
  refine aD Tryz.func91 rfl Tryz.ntmps91 J J ?_
  refine ag ?_
  refine aa ?_
  (refine aT J J J J J J ?_; intro gc)
  (refine aT J J J J J J ?_; intro gn)
  repeat' (first | refine ag ?_ | refine aa ?_ | refine ab ?_ | refine ae ?_ | ((refine' ak rfl ?_ J J ?_); rotate_left; first | exact sO J J trivial rfl ⟨J, J, trivial⟩ | exact ai af J J J J | exact ah af 0 J J J J J) | refine aG rfl (ay J J J J ⟨J, J, trivial⟩ rfl (by kernel_rfl)) (fun w hm => jN now 1099511627776 w) J J ?_ | refine aj af 0 J J J J J J J J J J J J ?_)
  refine bf (σ := Option Addr × Nat) (fun _ => True) (fun p => .slice p.1 l.length p.2) (fun p => [.own p.1 p.2 64 6 l.length ((bR (db code (bI now)) l k).flatMap bC)]) rfl (ay J J J J ⟨J, J, J, trivial⟩ rfl (by kernel_rfl)) (fun w1 hm => pX x l cap k v gc gn code (bI now) w1 (hR.below hm.below) hlen hk hv (lw 1 hm rfl) (lw 0 hm rfl) hck) J J ?_
  rintro ⟨pa, pc⟩ -
  repeat' (first | refine ab ?_ | refine aA ?_ | refine ae ?_ | ((refine' ak rfl ?_ J J ?_); rotate_left; exact ai af J J J J))
  refine aB af (fun _ => 0) J J trivial rfl fun w1 hm => ⟨(pa, pc), trivial, rfl, Made.of (hm.mask [true, false, false] rfl) (fun e he F p hep => by
    have he' := List.mem_singleton.1 he
    rw [hep] at he'; cases he')⟩
end Go.Proofs.YtmdkfbmpenohiaaGreatDoor.Y
