/- Texts of this claim merged into one: KRead1, KUnp, KRead2. -/
import Derived.Test.YtklcfjlmlbnkaaaGreatDoorKBunI
import Derived.Test.YtklcfjlmlbnkaaaGreatDoorKRegionZ
import Derived.Deep.DeepCutAuto
import Derived.Test.YtklcfjlmlbnkaaaGreatDoorKBunS
import Derived.Test.YtklcfjlmlbnkaaaGreatDoorKBunA
namespace Go.Proofs.YtklcfjlmlbnkaaaGreatDoor
open Go.RowKit
def eU (ms : List (ByteArray × ByteArray)) : List Value := ms.flatMap fun m => [.string m.1, .string m.2]
theorem qL : ∀ (ms : List (ByteArray × ByteArray)) (i : Nat) (h : i < ms.length), (eU ms)[i * 2]? = some (.string ms[i].1) ∧ (eU ms)[i * 2 + 1]? = some (.string ms[i].2)
  | [], _, h => absurd h (Nat.not_lt_zero _)
  | m :: r, 0, _ => by simp [eU]
  | m :: r, i + 1, h => by
    have ih := qL r i (by simpa using h)
    have e : eU (m :: r) = .string m.1 :: .string m.2 :: eU r := rfl
    rw [e, show (i + 1) * 2 = i * 2 + 1 + 1 by omega]
    simpa using ih
theorem tZ (ms : List (ByteArray × ByteArray)) (a b : ByteArray) : eU (ms ++ [(a, b)]) = eU ms ++ [.string a, .string b] := by simp [eU]
theorem MsIn.own {w : World} {B : Nat} {v : Value} {ms : List (ByteArray × ByteArray)} (h : w.ownsRow B MT 2 v ms.length (eU ms)) : MsIn w v ms := by
  rcases h.2 with ⟨hv, h0⟩ | ⟨g, cap, cur, hv, hB, hg, r⟩
  · exact ⟨none, 0, by rw [hv, h0], fun hne => absurd (List.length_eq_zero_iff.1 h0) hne⟩
  · refine ⟨some ⟨g, 0, none⟩, cap, hv, fun _ => ⟨g, 0, rfl, (Array.getElem?_eq_some_iff.1 hg).1, fun i hi => ?_⟩⟩
    obtain ⟨e1, e2⟩ := qL ms i hi
    have c1 := h.cells (g := g) (by rw [hv]; rfl) (i * 2) _ e1
    have c2 := h.cells (g := g) (by rw [hv]; rfl) (i * 2 + 1) _ e2
    have ha : ∀ j, (⟨g, 0, none⟩ : Addr).add j = ⟨g, 0 + j, none⟩ := fun j => by unfold Addr.add; split <;> simp_all
    rw [ha] at c1 c2
    exact ⟨c1, c2⟩
theorem lG (n : Nat) (s : ByteArray) {e : Int} (he : e ≠ 0) (acc : List (ByteArray × ByteArray)) : iJ n s e acc = ⟨acc, s, e⟩ := by
  cases n with
  | zero => rfl
  | succ n => rw [iJ, if_neg he]
theorem we (n : Nat) (s : ByteArray) (e : Int) : rT n s e = iJ n s (if e = 0 ∧ 16 < n then 3 else e) [] := by
  unfold rT
  by_cases he : e = 0
  · subst he
    by_cases hn : 16 < n
    · rw [if_pos rfl, if_pos hn, if_pos ⟨rfl, hn⟩, lG _ _ (by omega)]
    · rw [if_pos rfl, if_neg hn, if_neg (by omega)]
  · rw [if_neg he, if_neg (by omega), lG _ _ he]
def Fq (R : Fl) (w : World) (e : Ending) (w' : World) : Prop := ∃ v, e = .returned (.tuple #[.agg (eJ R.head v), .int .i64 R.err]) ∧ MsIn w' v R.head.metas ∧ Below w.heap.size w w'
theorem MsIn.zero (w : World) : MsIn w (.slice none 0 0) [] := ⟨none, 0, rfl, fun h => absurd rfl h⟩
theorem eK {B : Nat} {a w : World} (h : Below B a w) {b : Nat} (hb : B ≤ b) (x0 x1 x2 x3 : Value) : Below B a ((((w.setCell ⟨b, 0, none⟩ x0).setCell ⟨b, 1, none⟩ x1).setCell ⟨b, 2, none⟩ x2).setCell ⟨b, 3, none⟩ x3) :=
  (((h.setCell hb x0).setCell hb x1).setCell hb x2).setCell hb x3
theorem na {w w' : World} {B : Nat} {e : TypeId} {size : Nat} {v : Value} {n : Nat} {xs : List Value} (h : w.ownsRow B e size v n xs) (hb : Below w.heap.size w w') : w'.ownsRow B e size v n xs :=
  h.kept (row := none) (iv hb) (by cases hv : v.ownBlock <;> simp)
theorem Bk.apart {w w' : World} {g : Nat} {ty : TypeId} {cs : Array Value} {r : Option Nat} (h : Bk w g ty cs) (hg : w.grownBy w' r) (hn : r ≠ some g) : Bk w' g ty cs := (hg.block g h.here (fun e => hn e.symm)).trans h
def DI (R : Fl) (w : World) (e : Ending) (w' : World) : Prop := ∃ v, e = .returned (.tuple #[.agg (eJ R.head v), .int .i64 R.err]) ∧ w'.ownsRow w.heap.size MT 2 v R.head.metas.length (eU R.head.metas) ∧ Below w.heap.size w w'
end Go.Proofs.YtklcfjlmlbnkaaaGreatDoor
namespace Go.Proofs.YtklcfjlmlbnkaaaGreatDoor
open Go.RowKit
theorem EL : AggT Tryz.prog 77 2 := ⟨by kernel_rfl, by kernel_rfl⟩
theorem xE (f : FuncId) (s : ByteArray) (u n : Nat) (c : Int) (h : cx s = (u, n, c)) (hc : ∀ w, Calls Tryz.prog f #[.string s] w fun e w' => e = .returned (.tuple #[.int .u64 ((cx s).1 : Nat), .int .i64 ((cx s).2.1 : Nat), .int .i64 (cx s).2.2]) ∧ w = w') (w : World) :
    Calls Tryz.prog f #[.string s] w fun e w' => e = .returned (.tuple #[.int .u64 u, .int .i64 n, .int .i64 c]) ∧ w = w' := by
  have := hc w; rw [h] at this; exact this
set_option maxHeartbeats 1000000 in
theorem lH (s : ByteArray) (w : World) (hs : s.size ≤ 4611686018427387900) :
    Calls Tryz.prog 47 #[.string s] w fun e w' => e = .returned (.tuple #[.agg #[.int .i64 (aV s).code, .string (aV s).text], .int .i64 (aV s).err]) ∧ Below w.heap.size w w' := by
  obtain ⟨u, n, c, hP⟩ : ∃ u n c, cx s = (u, n, c) := ⟨_, _, _, rfl⟩
  have HT := Lib.hid (xE _ s u n c hP fun w => kj s w (by omega))
  by_cases hc : c = 0
  · subst hc
    have HPP := Lib.hid (show aV s = gj s u n by unfold aV; rw [hP]; rfl)
    have hu64 := km hP
    obtain ⟨hn0, hn10, hns⟩ := ki hP
    have hl : s.data.toList.length = s.size := by rw [Array.length_toList]; rfl
    rw [hl] at hns
    have HL := Lib.hid (fun w => Dy u w hu64)
    have HUN := Lib.hid (show ∀ x, gj s u n = x → aV s = x from fun x e => HPP.out.trans e)
    clear hP hl HPP
    by_cases h1 : n = (aM u).length
    · have hq := (AV (show (n : Int) = ((aM u).length : Int) by omega)).2
      by_cases h2 : 13 < u
      · have HR := Lib.hid (HUN.out ⟨0, ⟨#[]⟩, 6⟩ (by unfold gj; rw [if_neg (by omega), if_pos h2]))
        clear h1 hu64
        go_enter Tryz.func47, Tryz.ntmps47
        go_wp2_with fail
        refine (HT.out _).mono ?_; rintro e w1 ⟨rfl, rfl⟩
        go_wp2_with fail
        refine (HL.out _).mono ?_; rintro e w2 ⟨rfl, rfl⟩
        go_wp2_with fail
        exact bodyPost_ret (v := .tuple #[.agg #[.int .i64 0, .string ⟨#[]⟩], .int .i64 6]) (by simp [results, Tryz.results47, go_sem]) rfl ⟨by rw [HR.out], (Below.refl _ _).alloc (Nat.le_refl _) _⟩
      · have hd : (s.extract n s.size).size ≤ 4611686018427387900 := by rw [ByteArray.size_extract]; omega
        by_cases h3 : bF u (s.extract n s.size) = 0
        · have HR := Lib.hid (HUN.out ⟨u, s.extract n s.size, 0⟩ (by unfold gj; rw [if_neg (by omega), if_neg h2, if_pos h3]))
          have HC := Lib.hid (AW _ (u : Int) 0 _ h3 fun w => kR _ _ w hd)
          clear h1 h3 hu64 hd
          go_enter Tryz.func47, Tryz.ntmps47
          go_wp2_with fail
          refine (HT.out _).mono ?_; rintro e w1 ⟨rfl, rfl⟩
          go_wp2_with fail
          refine (HL.out _).mono ?_; rintro e w2 ⟨rfl, rfl⟩
          go_wp2_with fail
          refine (HC.out _).mono ?_; rintro e w3 ⟨rfl, hb3⟩
          have K0 := ((Bk.new w 77 #[.int .i64 0, .string ⟨#[]⟩]).more _).keep hb3
          have K1 := (Bk.new (w.alloc (.cells #[.int .i64 0, .string ⟨#[]⟩] 77)) 77 #[.int .i64 (u : Int), .string (s.extract n s.size)]).keep hb3
          have HB := Lib.hid (show Below w.heap.size w w3 from (((Below.refl _ _).alloc (Nat.le_refl _) _).alloc (by simp) _).trans (hb3.mono (by simp; omega)))
          have c0 := K0.at_ 0 rfl
          have c1 := K0.at_ 1 rfl
          have c2 := K1.at_ 0 rfl
          have c3 := K1.at_ 1 rfl
          rw [show (w.alloc (.cells #[.int .i64 0, .string ⟨#[]⟩] 77)).heap.size = w.heap.size + 1 by simp] at c2 c3
          have f0 := K0.free
          have HK := Lib.hid K0
          clear hb3 K0 K1
          go_wp2_with fail
          exact bodyPost_ret (dJ Tryz.results47 _ J J ((HK.out.put 0 _).put 1 _) EL) rfl ⟨by rw [HR.out]; rfl, (HB.out.setCell (Nat.le_refl _) _).setCell (Nat.le_refl _) _⟩
        · obtain ⟨d, hdd⟩ : ∃ d, bF u (s.extract n s.size) = d := ⟨_, rfl⟩
          have HR := Lib.hid (HUN.out ⟨0, ⟨#[]⟩, d⟩ (by unfold gj; rw [if_neg (by omega), if_neg h2, if_neg h3, hdd]))
          have HC := Lib.hid (AW _ (u : Int) d _ hdd fun w => kR _ _ w hd)
          obtain ⟨hq1, hq2⟩ := cj (show d ≠ 0 by omega)
          clear h1 h3 hu64 hd hdd
          go_enter Tryz.func47, Tryz.ntmps47
          go_wp2_with fail
          refine (HT.out _).mono ?_; rintro e w1 ⟨rfl, rfl⟩
          go_wp2_with fail
          refine (HL.out _).mono ?_; rintro e w2 ⟨rfl, rfl⟩
          go_wp2_with fail
          refine (HC.out _).mono ?_; rintro e w3 ⟨rfl, hb3⟩
          have K0 := ((Bk.new w 77 #[.int .i64 0, .string ⟨#[]⟩]).more _).keep hb3
          have K1 := (Bk.new (w.alloc (.cells #[.int .i64 0, .string ⟨#[]⟩] 77)) 77 #[.int .i64 (u : Int), .string (s.extract n s.size)]).keep hb3
          have HB := Lib.hid (show Below w.heap.size w w3 from (((Below.refl _ _).alloc (Nat.le_refl _) _).alloc (by simp) _).trans (hb3.mono (by simp; omega)))
          have c0 := K0.at_ 0 rfl
          have c1 := K0.at_ 1 rfl
          have c2 := K1.at_ 0 rfl
          have c3 := K1.at_ 1 rfl
          rw [show (w.alloc (.cells #[.int .i64 0, .string ⟨#[]⟩] 77)).heap.size = w.heap.size + 1 by simp] at c2 c3
          have f0 := K0.free
          have HK := Lib.hid K0
          clear hb3 K0 K1
          go_wp2_with fail
          exact bodyPost_ret (dJ Tryz.results47 _ J J ((HK.out.put 0 _).put 1 _) EL) rfl ⟨by rw [HR.out]; rfl, (HB.out.setCell (Nat.le_refl _) _).setCell (Nat.le_refl _) _⟩
    · have hq := (cj (show (n : Int) ≠ ((aM u).length : Int) by omega)).2
      have HR := Lib.hid (HUN.out ⟨0, ⟨#[]⟩, 5⟩ (by unfold gj; rw [if_pos h1]))
      clear h1 hu64
      go_enter Tryz.func47, Tryz.ntmps47
      go_wp2_with fail
      refine (HT.out _).mono ?_; rintro e w1 ⟨rfl, rfl⟩
      go_wp2_with fail
      refine (HL.out _).mono ?_; rintro e w2 ⟨rfl, rfl⟩
      go_wp2_with fail
      exact bodyPost_ret (v := .tuple #[.agg #[.int .i64 0, .string ⟨#[]⟩], .int .i64 5]) (by simp [results, Tryz.results47, go_sem]) rfl ⟨by rw [HR.out], (Below.refl _ _).alloc (Nat.le_refl _) _⟩
  · have HR := Lib.hid (show aV s = ⟨0, ⟨#[]⟩, c⟩ by unfold aV; rw [hP, if_neg hc])
    obtain ⟨hq1, hq2⟩ := cj hc
    clear hP hc
    go_enter Tryz.func47, Tryz.ntmps47
    go_wp2_with fail
    refine (HT.out _).mono ?_; rintro e w1 ⟨rfl, rfl⟩
    go_wp2_with fail
    exact bodyPost_ret (v := .tuple #[.agg #[.int .i64 0, .string ⟨#[]⟩], .int .i64 c]) (by simp [results, Tryz.results47, go_sem]) rfl ⟨by rw [HR.out], (Below.refl _ _).alloc (Nat.le_refl _) _⟩
end Go.Proofs.YtklcfjlmlbnkaaaGreatDoor
namespace Go.Proofs.YtklcfjlmlbnkaaaGreatDoor
open Go.RowKit
theorem A7 {s : ByteArray} {u n : Nat} {c : Int} (h : cx s = (u, n, c)) : n ≤ s.size := by
  have hl : s.data.toList.length = s.size := by rw [Array.length_toList]; rfl
  rcases kQ s.data.toList with h0 | h0 | h0
  · have h2 := ki (l := s.data.toList) (u := u) (m := n) (by rw [show cr s.data.toList = (u, n, c) from h] at h0 ⊢; simp at h0; rw [h0])
    omega
  · rw [show cr s.data.toList = (u, n, c) from h] at h0; simp at h0; omega
  · rw [show cr s.data.toList = (u, n, c) from h] at h0; simp at h0; omega
end Go.Proofs.YtklcfjlmlbnkaaaGreatDoor
