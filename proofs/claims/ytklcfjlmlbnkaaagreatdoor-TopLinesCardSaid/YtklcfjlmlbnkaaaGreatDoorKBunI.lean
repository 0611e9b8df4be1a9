/- Texts of this claim merged into one: KIdent, KTaker, KHead0, KHead1, KHead2, KBld, KHead3, KHead4. -/
import Derived.Test.YtklcfjlmlbnkaaaGreatDoorKBunU
import Derived.Test.YtklcfjlmlbnkaaaGreatDoorKBunS
import Derived.Test.YtklcfjlmlbnkaaaGreatDoorKShelf
import Derived.Test.YtklcfjlmlbnkaaaGreatDoorKBunA
import Derived.Test.YtklcfjlmlbnkaaaGreatDoorKBunG
import Derived.IntWalk
import Derived.Deep.QuietTactic
import Derived.BigQuiet
import Derived.Shelf.Strings.BuilderK
import Derived.Laws.Externs
import Derived.WalkKit
namespace Go.Proofs.YtklcfjlmlbnkaaaGreatDoor
open Go.RowKit
theorem qH (c : Nat) (w : World) :
    Calls Tryz.prog 98 #[.int .i32 (c : Int)] w fun e w' => e = .returned (.int .i64 ((jS c : Nat) : Int)) ∧ w = w' := by
  go_enter Tryz.func98, Tryz.ntmps98
  go_wp2
  all_goals
    go_ret
    refine ⟨bN ?_, rfl⟩
    unfold jS
    (repeat' split) <;> simp_all <;> omega
theorem vZ (c : Nat) : jS c = 0 ∨ jS c = 1 ∨ jS c = 2 ∨ jS c = 3 ∨ jS c = 4 := by unfold jS; (repeat' split) <;> simp
theorem DA (s : ByteArray) {k : Nat} (h : k < s.size) : dx (s.data.toList.drop k) 0 = s[k].toNat := by have := Dz s (i := k) (k := 0) h; simpa using this.symm
theorem ml (s : ByteArray) {k : Nat} (h : k < s.data.toList.length) : s.data.toList[k] = s[k]'(by simpa using h) := rfl
set_option maxHeartbeats 2000000 in
set_option maxRecDepth 100000 in
theorem jz (s : ByteArray) (w : World) (hs : s.size ≤ 4611686018427387900) :
    Calls Tryz.prog 66 #[.string s] w fun e w' => e = .returned (.bool (bV s.data.toList)) ∧ Below w.heap.size w w' := by
  have hlen : s.data.toList.length = s.size := by rw [Array.length_toList]; rfl
  go_enter Tryz.func66, Tryz.ntmps66
  go_wp2
  go_loopw [] (fun wr => ∃ pos : Nat, pos ≤ s.size ∧ wr.heap[w.heap.size]? = some (.stringIter s pos) ∧ Below w.heap.size w wr ∧ (∀ k (h : k < s.data.toList.length), k < pos → C8 s.data.toList[k] = true) ∧ (∀ (h : 0 < s.data.toList.length), 0 < pos → qj s.data.toList[0] = true)) (fun wr => s.size - wr.iterPos w.heap.size)
  case atStart => exact ⟨0, Nat.zero_le _, World.iter_heap w s 0, (Below.refl _ w).alloc (Nat.le_refl _) _, fun _ _ h => absurd h (Nat.not_lt_zero _), fun _ h => absurd h (Nat.not_lt_zero _)⟩
  case round =>
    obtain ⟨pos, hpos, hit, hbw, hall, hhd⟩ := hrel
    have HA := Lib.hid hall; have HH := Lib.hid hhd; have HB := Lib.hid hbw; clear hall hhd hbw
    by_cases hp : pos < s.size
    · have hnx : ∀ ty, (Instr.next (.pointer (some ⟨w.heap.size, 0, none⟩)) true ty).run Tryz.prog wr = _ := fun ty => Lib.run_next_any_at wr w.heap.size s pos ty hit hp
      have HIT := Lib.hid (Lib.iterAt_heap wr w.heap.size s pos (pos + (Utf8.decode s pos).2) hit)
      have HB2 := Lib.hid (Lib.below_iterAt HB.out (k := w.heap.size) (Nat.le_refl _) s (pos + (Utf8.decode s pos).2))
      have HO := Lib.hid hit; clear hit
      have HL := Lib.hid hlen
      have hat := DA s hp
      have HG := Lib.hid (fun (h : jS s[pos].toNat = 0) => yM (l := s.data.toList) (k := pos) (by rw [hlen]; exact hp) (show C8 s.data.toList[pos] = false by rw [ml]; unfold C8; rw [h]; rfl))
      have HNX := Lib.hid (fun (h : jS s[pos].toNat ≠ 0) => show ∀ k (h : k < s.data.toList.length), k < pos + 1 → C8 s.data.toList[k] = true from fun k hk hlt => by
        by_cases e : k = pos
        · subst e; rw [ml]; unfold C8; exact decide_eq_true h
        · exact HA.out k hk (by omega))
      by_cases hasc : s[pos].toNat < 128
      · have hD : Utf8.decode s pos = (s[pos].toNat, 1) := by rw [lE, Dw _ (by rw [hat]; exact hasc), hat]
        rw [hD] at hnx HIT HB2
        have HC := Lib.hid (fun w => qH s[pos].toNat w)
        have hcs := vZ s[pos].toNat
        have HLT := Lib.hid (show qj s[pos] = decide (jS s[pos].toNat = 1 ∨ jS s[pos].toNat = 2) from rfl)
        clear hat hD hasc hlen
        generalize jS s[pos].toNat = K at *
        by_cases hp0 : pos = 0
        · subst hp0
          have HP0 := Lib.hid (fun (h : ¬ (K = 1 ∨ K = 2)) => tJ (l := s.data.toList) (by rw [HL.out]; exact hp) (show qj s.data.toList[0] = false by rw [ml, HLT.out]; exact decide_eq_false h))
          have HP1 := Lib.hid (fun (h : K = 1 ∨ K = 2) => show ∀ (h : 0 < s.data.toList.length), 0 < 0 + 1 → qj s.data.toList[0] = true from fun hh _ => by rw [ml, HLT.out]; exact decide_eq_true h)
          rcases hcs with rfl | rfl | rfl | rfl | rfl
          · have HR := Lib.hid (HG.out rfl)
            go_wp2_with fail
            refine (HC.out _).mono ?_; rintro e w1 ⟨rfl, rfl⟩
            go_wp2_with fail
            go_ret
            exact ⟨bn HR.out.symm, HB2.out⟩
          · go_wp2_with fail
            refine (HC.out _).mono ?_; rintro e w1 ⟨rfl, rfl⟩
            go_wp2_with fail
            go_roundw
            case rel => exact ⟨0 + 1, hp, HIT.out, HB2.out, HNX.out (by decide), HP1.out (by simp)⟩
            case measure => rw [iterPos_of HIT.out, iterPos_of HO.out]; show s.size - (0 + 1) < s.size - 0; omega
          · go_wp2_with fail
            refine (HC.out _).mono ?_; rintro e w1 ⟨rfl, rfl⟩
            go_wp2_with fail
            go_roundw
            case rel => exact ⟨0 + 1, hp, HIT.out, HB2.out, HNX.out (by decide), HP1.out (by simp)⟩
            case measure => rw [iterPos_of HIT.out, iterPos_of HO.out]; show s.size - (0 + 1) < s.size - 0; omega
          · have HR := Lib.hid (HP0.out (by omega))
            go_wp2_with fail
            refine (HC.out _).mono ?_; rintro e w1 ⟨rfl, rfl⟩
            go_wp2_with fail
            go_ret
            exact ⟨bn HR.out.symm, HB2.out⟩
          · have HR := Lib.hid (HP0.out (by omega))
            go_wp2_with fail
            refine (HC.out _).mono ?_; rintro e w1 ⟨rfl, rfl⟩
            go_wp2_with fail
            go_ret
            exact ⟨bn HR.out.symm, HB2.out⟩
        · obtain ⟨hq, _⟩ := cj (show (pos : Int) ≠ 0 by omega)
          have hpp : 0 < pos := by omega
          clear hp0
          by_cases hK : K = 0
          · subst hK
            have HR := Lib.hid (HG.out rfl)
            go_wp2_with fail
            refine (HC.out _).mono ?_; rintro e w1 ⟨rfl, rfl⟩
            go_wp2_with fail
            go_ret
            exact ⟨bn HR.out.symm, HB2.out⟩
          · obtain ⟨hk1, hk2⟩ := cj (show (K : Int) ≠ 0 by omega)
            have HN := Lib.hid (HNX.out hK)
            clear hK hcs
            go_wp2_with fail
            refine (HC.out _).mono ?_; rintro e w1 ⟨rfl, rfl⟩
            go_wp2_with fail
            go_roundw
            case rel => exact ⟨pos + 1, hp, HIT.out, HB2.out, HN.out, fun h _ => HH.out h hpp⟩
            case measure => rw [iterPos_of HIT.out, iterPos_of HO.out]; show s.size - (pos + 1) < s.size - pos; omega
      · have hge := Fi (s.data.toList.drop pos) (by rw [hat]; omega)
        rw [← lE] at hge
        have HR := Lib.hid (HG.out (tI (by omega)))
        generalize Utf8.decode s pos = D at *
        obtain ⟨dc, dn⟩ := D
        have HC := Lib.hid (fun w => (qH dc w).mono fun e w' h => (show e = .returned (.int .i64 0) ∧ w = w' by rw [tI hge] at h; exact h))
        clear hat hasc hlen hge
        go_wp2_with fail
        refine (HC.out _).mono ?_; rintro e w1 ⟨rfl, rfl⟩
        go_wp2_with fail
        go_ret
        exact ⟨bn HR.out.symm, HB2.out⟩
    · have hnx : ∀ ty, (Instr.next (.pointer (some ⟨w.heap.size, 0, none⟩)) true ty).run Tryz.prog wr = _ := fun ty => Lib.run_next_end_at wr w.heap.size s pos ty hit hp
      obtain rfl : pos = s.size := by omega
      have HR := Lib.hid (show bV s.data.toList = decide (1 ≤ s.size ∧ s.size ≤ 40) by
        have := yN (l := s.data.toList) (fun k hk => HA.out k hk (by omega)) (fun h => HH.out h (by omega))
        rw [this, hlen])
      clear hlen
      go_wp2_with fail
      all_goals
        go_ret
        exact ⟨bn (by rw [HR.out, Bool.eq_iff_iff]; simp; omega), HB.out⟩
def MLen (w : World) : Prop := ∃ m : Int, w.cell? ⟨0, 0, none⟩ = some (.int .i64 m)
theorem AZ {w : World} {b o : Nat} {v : Value} (h : w.cell? ⟨b, o, none⟩ = some v) : b < w.heap.size := by
  unfold World.cell? at h
  cases hh : w.heap[b]? with
  | none => rw [hh] at h; cases h
  | some o => exact (Array.getElem?_eq_some_iff.1 hh).1
theorem MLen.below {w w' : World} (h : MLen w) (hb : Below w.heap.size w w') : MLen w' := by
  obtain ⟨m, hm⟩ := h
  exact ⟨m, (hb.cell (p := ⟨0, 0, none⟩) (AZ hm)).trans hm⟩
theorem yU (s : ByteArray) (w : World) (hg : MLen w) (hs : s.size < 4294967281) :
    Calls Tryz.prog 97 #[.string s, .string ⟨#[46]⟩] w fun e w' =>
      e = .returned (.slice (some ⟨w.heap.size, 0, none⟩) (Lib.countB s ⟨#[46]⟩ + 1) (Lib.countB s ⟨#[46]⟩ + 1)) ∧ w' = w.alloc (.cells ((Lib.splitB ⟨#[46]⟩ 0 (Lib.countB s ⟨#[46]⟩) s).map Value.string).toArray 9) := by
  obtain ⟨m, hm⟩ := hg
  exact Tryz.strings_Split s ⟨#[46]⟩ m w hs hm (by decide)
theorem A0 {l : List (List UInt8)} {k : Nat} (h : k < l.length) (ht : (l.take k).all bV = true) (hk : bV l[k] = true) : (l.take (k + 1)).all bV = true := by
  rw [List.take_succ_eq_append_getElem h, List.all_append, ht]; simp [hk]
theorem DB {l : List (List UInt8)} {k : Nat} (h : k < l.length) (hk : bV l[k] = false) : l.all bV = false := by
  rw [List.all_eq_false]; exact ⟨l[k], List.getElem_mem h, by simp [hk]⟩
theorem qI {f : FuncId} {s : ByteArray} {b : Bool} {P : Bool} {w : World} (h : P = b) (hc : Calls Tryz.prog f #[.string s] w fun e w' => e = .returned (.bool P) ∧ Below w.heap.size w w') :
    Calls Tryz.prog f #[.string s] w fun e w' => e = .returned (.bool b) ∧ Below w.heap.size w w' := by subst h; exact hc
set_option maxHeartbeats 2000000 in
set_option maxRecDepth 100000 in
theorem oM (s : ByteArray) (w : World) (hg : MLen w) (hs : s.size < 4294967281) :
    Calls Tryz.prog 65 #[.string s] w fun e w' => e = .returned (.bool (fP s.data.toList)) ∧ Below w.heap.size w w' := by
  have hlen : s.data.toList.length = s.size := by rw [Array.length_toList]; rfl
  have hL := vT s
  have hn := Lib.splitB_all ⟨#[46]⟩ (by decide) 0 _ s rfl
  have HFO := Lib.hid (show fP s.data.toList = (decide (s.size ≤ 120) && (tH s.data.toList).all bV) by unfold fP; rw [hlen])
  have hcb := Lib.countB_le ⟨#[46]⟩ (by decide) s.size s (Nat.le_refl _)
  have hsp := yU s w hg hs
  have hmem : ∀ p ∈ Lib.splitB ⟨#[46]⟩ 0 (Lib.countB s ⟨#[46]⟩) s, p.size ≤ 4611686018427387900 := by
    have hgen : ∀ (k : Nat) (s : ByteArray), s.size < 4294967281 → ∀ p ∈ Lib.splitB ⟨#[46]⟩ 0 k s, p.size ≤ 4611686018427387900 := by
      intro k
      induction k with
      | zero => intro s hs p hp; simp [Lib.splitB] at hp; subst hp; omega
      | succ k ih =>
        intro s hs p hp
        unfold Lib.splitB at hp
        split at hp
        · simp at hp; subst hp; omega
        · rcases List.mem_cons.1 hp with rfl | hp
          · rw [ByteArray.size_extract]; omega
          · exact ih _ (by rw [ByteArray.size_extract]; omega) p hp
    exact hgen _ s hs
  generalize Lib.countB s ⟨#[46]⟩ = n at *
  generalize Lib.splitB ⟨#[46]⟩ 0 n s = L at *
  have hn10 : n + 1 ≤ 4294967282 := by omega
  clear hcb
  generalize n + 1 = N at *
  have HSP := Lib.hid hsp; clear hsp
  have HL := Lib.hid hL; have HN := Lib.hid hn; have HM := Lib.hid hmem; clear hL hn hmem hlen
  have hi1 : (N : Int) ≤ 9223372036854775807 := by omega
  clear hs hn10
  go_enter Tryz.func65, Tryz.ntmps65
  go_wp2_with fail
  refine (HSP.out).mono ?_; rintro e w1 ⟨rfl, rfl⟩
  have HCL := Lib.hid (show ∀ k (h : k < L.length), (w.alloc (.cells (L.map Value.string).toArray 9)).cell? ⟨w.heap.size, k, none⟩ = some (.string L[k]) from fun k h => by
    rw [World.cell?_alloc_mark]; simp [h])
  go_wp2_with fail
  go_loopw [8] (fun x wr => ∃ k : Nat, k ≤ N ∧ x = .int .i64 k ∧ Below (w.heap.size + 1) (w.alloc (.cells (L.map Value.string).toArray 9)) wr ∧ ((L.map (·.data.toList)).take k).all bV = true) (fun x _ => N - (intOf x).toNat)
  case atStart => exact ⟨0, Nat.zero_le _, rfl, Below.refl _ _, rfl⟩
  case round =>
    obtain ⟨k, hk, rfl, hb, hall⟩ := hrel
    have HB := Lib.hid hb; have HA := Lib.hid hall; clear hb hall
    by_cases hlt : k < N
    · have hkl : k < L.length := by have := HN.out; omega
      have hcell := (HB.out.cell (p := ⟨w.heap.size, k, none⟩) (Nat.lt_succ_self _)).trans (HCL.out k hkl)
      have HMK := Lib.hid (HM.out L[k] (List.getElem_mem hkl))
      have hg1 : (L.map (·.data.toList))[k]'(by simpa using hkl) = L[k].data.toList := by simp
      have HST := Lib.hid (fun (h : bV L[k].data.toList = true) => A0 (l := L.map (·.data.toList)) (k := k) (by simpa using hkl) HA.out (by rw [hg1]; exact h))
      have HNO := Lib.hid (fun (h : bV L[k].data.toList = false) => DB (l := L.map (·.data.toList)) (k := k) (by simpa using hkl) (by rw [hg1]; exact h))
      clear hg1
      generalize L[k] = p at *
      cases hP : bV p.data.toList with
      | true =>
        have HC := Lib.hid (fun w => qI hP (jz p w HMK.out))
        have HS := Lib.hid (HST.out hP)
        clear hP
        go_wp2_with fail
        refine (HC.out _).mono ?_; rintro e w2 ⟨rfl, hb2⟩
        have HB2 := Lib.hid (HB.out.trans (hb2.mono (by have := HB.out.size; simpa using this)))
        go_wp2_with fail
        go_roundw
        case rel => exact ⟨k + 1, by omega, by go_num, HB2.out, HS.out⟩
        case measure => simp [intOf]; omega
      | false =>
        have HC := Lib.hid (fun w => qI hP (jz p w HMK.out))
        have HS := Lib.hid (show fP s.data.toList = false by rw [HFO.out, ← HL.out, HNO.out hP, Bool.and_false])
        clear hP
        go_wp2_with fail
        refine (HC.out _).mono ?_; rintro e w2 ⟨rfl, hb2⟩
        have HB2 := Lib.hid (HB.out.trans (hb2.mono (by have := HB.out.size; simpa using this)))
        go_wp2_with fail
        go_ret
        exact ⟨bn HS.out.symm, (((Below.refl _ _).alloc (Nat.le_refl _) _).trans (HB2.out.mono (Nat.le_succ _)))⟩
    · have HR := Lib.hid (show fP s.data.toList = decide (s.size ≤ 120) by
        have := HA.out
        rw [List.take_of_length_le (by simp; have := HN.out; omega), HL.out] at this
        rw [HFO.out, this, Bool.and_true])
      go_wp2_with fail
      go_ret
      exact ⟨bn (by rw [HR.out, Bool.eq_iff_iff]; simp; omega), (((Below.refl _ _).alloc (Nat.le_refl _) _).trans (HB.out.mono (Nat.le_succ _)))⟩
theorem xA {f : FuncId} {s : ByteArray} {b : Bool} {P : Bool} {w : World} (h : P = b) (hc : Calls Tryz.prog f #[.string s] w fun e w' => e = .returned (.bool P) ∧ w = w') :
    Calls Tryz.prog f #[.string s] w fun e w' => e = .returned (.bool b) ∧ w = w' := by subst h; exact hc
theorem dB (acc : List UInt8) : (⟨acc.toArray⟩ : ByteArray).size = acc.length := by show acc.toArray.size = _; simp
end Go.Proofs.YtklcfjlmlbnkaaaGreatDoor
namespace Go.Proofs.YtklcfjlmlbnkaaaGreatDoor
open Go.RowKit
theorem lF (w : World) (r : Option Nat) : w.grownBy w r := ⟨rfl, rfl, rfl, Nat.le_refl _, fun _ _ _ => rfl⟩
theorem iV {a b : World} {g : Nat} (h : a.grownBy b (some g)) (i : Nat) (v : Value) : a.grownBy (b.setCell ⟨g, i, none⟩ v) (some g) :=
  ⟨h.os, h.tape, h.output, by simpa [World.setCell] using h.size, fun k hk hr => (Below.heap_setCell b ⟨g, i, none⟩ v k (fun e => hr (by simp [e]))).trans (h.block k hk hr)⟩
theorem iv {a b : World} {r : Option Nat} (h : Below a.heap.size a b) : a.grownBy b r := ⟨h.os, h.tape, h.output, h.size, fun k hk _ => h.block k hk⟩
theorem Bk.beside {w w' : World} {g b : Nat} {t : TypeId} {cs : Array Value} (h : Bk w g t cs) (hg : w.grownBy w' (some b)) (hn : g ≠ b) : Bk w' g t cs := (hg.block g h.here (fun e => hn (Option.some.inj e))).trans h
abbrev TK : TypeId := 148
theorem xB {a b : Nat} (h : a = b) : Ending.returned (.int .u64 (a : Int)) = .returned (.int .u64 (b : Int)) := by rw [h]
set_option maxHeartbeats 1000000 in
theorem oN (b : Nat) (s : ByteArray) (e : Int) (w : World) (hk : Bk w b TK #[.string s, .int .i64 e]) (hs : s.size ≤ 4611686018427387900) :
    Calls Tryz.prog 72 #[.pointer (some ⟨b, 0, none⟩)] w fun r w' => r = .returned (.int .u64 ((ez s e).num : Nat)) ∧ Bk w' b TK #[.string (ez s e).rest, .int .i64 (ez s e).err] ∧ w.grownBy w' (some b) := by
  have HK := Lib.hid hk
  have c0 : w.cell? ⟨b, 0, none⟩ = some (.string s) := hk.at_ 0 rfl
  have c1 : w.cell? ⟨b, 1, none⟩ = some (.int .i64 e) := hk.at_ 1 rfl
  have cf := hk.free
  clear hk
  by_cases he : e = 0
  · subst he
    have ht := kj s w (by omega)
    obtain ⟨⟨u, n, c⟩, hT⟩ : ∃ t, cx s = t := ⟨_, rfl⟩
    have hn : n ≤ s.size := by
      rcases kQ s.data.toList with h | h | h
      · have h2 := ki (l := s.data.toList) (u := u) (m := n) (by rw [show cr s.data.toList = (u, n, c) from hT] at h ⊢; simp at h; rw [h])
        have : s.data.toList.length = s.size := by rw [Array.length_toList]; rfl
        omega
      · rw [show cr s.data.toList = (u, n, c) from hT] at h; simp at h; omega
      · rw [show cr s.data.toList = (u, n, c) from hT] at h; simp at h; omega
    have HR := Lib.hid (show ez s 0 = ⟨u, s.extract n s.size, c⟩ by unfold ez; rw [if_pos rfl, hT])
    rw [hT] at ht
    have HT := Lib.hid ht; clear ht hT
    go_enter Tryz.func72, Tryz.ntmps72
    go_wp2_with fail
    refine (HT.out).mono ?_; rintro e w1 ⟨rfl, rfl⟩
    go_wp2_with fail
    go_ret
    refine ⟨xB (by rw [HR.out]), ?_, iV (iV (lF _ _) _ _) _ _⟩
    rw [HR.out]
    exact (HK.out.put 1 _).put 0 _
  · have hq := cj he
    obtain ⟨q1, q2⟩ := hq
    have HR := Lib.hid (show ez s e = ⟨0, s, e⟩ by unfold ez; rw [if_neg he])
    clear he
    go_enter Tryz.func72, Tryz.ntmps72
    go_wp2_with fail
    go_ret
    refine ⟨xB (by rw [HR.out]), ?_, lF _ _⟩
    rw [HR.out]
    exact HK.out
theorem mn (s : ByteArray) (e : Int) : (ez s e).rest.size ≤ s.size := by
  unfold ez; split
  · rw [ByteArray.size_extract]; show min _ _ - _ ≤ _; omega
  · exact Nat.le_refl _
theorem oO (s : ByteArray) (e : Int) : (ez s e).num < 18446744073709551616 := by
  unfold ez; split
  · rcases kQ s.data.toList with h | h | h
    · exact km (s := s) (u := (cx s).1) (n := (cx s).2.1) (Prod.ext rfl (Prod.ext rfl h))
    · show (cr s.data.toList).1 < _; rw [h]; omega
    · show (cr s.data.toList).1 < _; rw [h]; omega
  · show 0 < _; omega
theorem mo (s : ByteArray) (e : Int) : (de s e).rest.size ≤ s.size ∧ (de s e).text.size ≤ s.size := by
  have h := mn s e
  unfold de mX
  split
  · split
    · exact ⟨h, Nat.zero_le _⟩
    · constructor
      · rw [ByteArray.size_extract]; show min _ _ - _ ≤ _; omega
      · rw [ByteArray.size_extract]; show min _ _ - _ ≤ _; omega
  · exact ⟨h, Nat.zero_le _⟩
set_option maxHeartbeats 1000000 in
theorem A1 (b : Nat) (s : ByteArray) (e : Int) (w : World) (hk : Bk w b TK #[.string s, .int .i64 e]) (hs : s.size ≤ 4611686018427387900) :
    Calls Tryz.prog 71 #[.pointer (some ⟨b, 0, none⟩)] w fun r w' => r = .returned (.string (de s e).text) ∧ Bk w' b TK #[.string (de s e).rest, .int .i64 (de s e).err] ∧ w.grownBy w' (some b) := by
  have HC := Lib.hid (oN b s e w hk hs)
  have hl := mn s e
  have hlt := oO s e
  have HX := Lib.hid (show de s e = mX (ez s e) from rfl)
  generalize ez s e = T at *
  generalize de s e = R at *
  obtain ⟨n, t, c⟩ := T
  have HW := Lib.hid (show t.size ≤ 4611686018427387900 by have : t.size ≤ s.size := hl; omega)
  clear hk
  by_cases hc : c = 0
  · subst hc
    have hwt : IntKind.u64.wrap (t.size : Int) = t.size := by have := HW.out; rw [IntKind.wrap_u64]; omega
    by_cases hn : t.size < n
    · have HR := Lib.hid (show R = ⟨⟨#[]⟩, t, 4⟩ by rw [HX.out]; unfold mX; rw [if_pos rfl, if_pos hn])
      have hn1 : decide ((t.size : Int) < (n : Int)) = true := decide_eq_true (by omega)
      go_enter Tryz.func71, Tryz.ntmps71
      go_wp2_with fail
      refine (HC.out).mono ?_; rintro e w1 ⟨rfl, hk1, hg1⟩
      have HK1 := Lib.hid hk1; have HG1 := Lib.hid hg1
      have c0 : w1.cell? ⟨b, 0, none⟩ = some (.string t) := hk1.at_ 0 rfl
      have c1 : w1.cell? ⟨b, 1, none⟩ = some (.int .i64 0) := hk1.at_ 1 rfl
      have cf := hk1.free
      clear hk1 hg1
      go_wp2_with fail
      go_ret
      refine ⟨by rw [HR.out]; rfl, ?_, iV HG1.out _ _⟩
      rw [HR.out]
      exact HK1.out.put 1 _
    · have HR := Lib.hid (show R = ⟨t.extract 0 n, t.extract n t.size, 0⟩ by rw [HX.out]; unfold mX; rw [if_pos rfl, if_neg hn])
      have hn1 : decide ((t.size : Int) < (n : Int)) = false := decide_eq_false (by omega)
      have hn2 : n ≤ t.size := by omega
      go_enter Tryz.func71, Tryz.ntmps71
      go_wp2_with fail
      refine (HC.out).mono ?_; rintro e w1 ⟨rfl, hk1, hg1⟩
      have HK1 := Lib.hid hk1; have HG1 := Lib.hid hg1
      have c0 : w1.cell? ⟨b, 0, none⟩ = some (.string t) := hk1.at_ 0 rfl
      have c1 : w1.cell? ⟨b, 1, none⟩ = some (.int .i64 0) := hk1.at_ 1 rfl
      have cf := hk1.free
      clear hk1 hg1
      go_wp2_with fail
      go_ret
      refine ⟨by rw [HR.out]; rfl, ?_, iV HG1.out _ _⟩
      rw [HR.out]
      exact HK1.out.put 0 _
  · obtain ⟨q1, q2⟩ := cj hc
    have HR := Lib.hid (show R = ⟨⟨#[]⟩, t, c⟩ by rw [HX.out]; unfold mX; rw [if_neg hc])
    clear hc
    go_enter Tryz.func71, Tryz.ntmps71
    go_wp2_with fail
    refine (HC.out).mono ?_; rintro e w1 ⟨rfl, hk1, hg1⟩
    have HK1 := Lib.hid hk1; have HG1 := Lib.hid hg1
    have c0 : w1.cell? ⟨b, 0, none⟩ = some (.string t) := hk1.at_ 0 rfl
    have c1 : w1.cell? ⟨b, 1, none⟩ = some (.int .i64 c) := hk1.at_ 1 rfl
    have cf := hk1.free
    clear hk1 hg1
    go_wp2_with fail
    go_ret
    refine ⟨by rw [HR.out]; rfl, ?_, HG1.out⟩
    rw [HR.out]
    exact HK1.out
end Go.Proofs.YtklcfjlmlbnkaaaGreatDoor
namespace Go.Proofs.YtklcfjlmlbnkaaaGreatDoor
open Go.RowKit
set_option maxHeartbeats 2000000 in
set_option maxRecDepth 100000 in
theorem DC (s : ByteArray) (w : World) (hs : s.size ≤ 4611686018427387900) :
    Calls Tryz.prog 67 #[.string s] w fun e w' => e = .returned (.bool (jK s.data.toList)) ∧ w = w' := by
  have hlen : s.data.toList.length = s.size := by rw [Array.length_toList]; rfl
  by_cases hl : 1 ≤ s.size ∧ s.size ≤ 40
  · have HLN := Lib.hid hlen; have HOK := Lib.hid hl; clear hlen
    obtain ⟨h1, h40⟩ := hl
    go_enter Tryz.func67, Tryz.ntmps67
    go_wp2_with fail
    go_loop [14] (fun x => ∃ k : Nat, k ≤ s.size ∧ x = .int .i64 k ∧ ∀ j (h : j < s.data.toList.length), j < k → mj s.data.toList[j] = true) (fun x => s.size - (intOf x).toNat)
    case atStart => exact ⟨0, Nat.zero_le _, rfl, fun _ _ h => absurd h (Nat.not_lt_zero _)⟩
    case round =>
      obtain ⟨k, hk, rfl, hall⟩ := hrel
      have HA := Lib.hid hall; clear hall
      by_cases hlt : k < s.size
      · have HG := Lib.hid (fun (h : mj s[k] = false) => AX (l := s.data.toList) (k := k) (by rw [HLN.out]; exact hlt) (show mj s.data.toList[k] = false from h))
        have HNX := Lib.hid (fun (h : mj s[k] = true) => show ∀ j (h : j < s.data.toList.length), j < k + 1 → mj s.data.toList[j] = true from fun j hj hlt => by
          by_cases e : j = k
          · subst e; exact h
          · exact HA.out j hj (by omega))
        rcases vY s[k] with ⟨hc, hz1, hz2⟩ | ⟨hc, hz1, hz2⟩ | ⟨hc, hz1⟩ | ⟨hc, hz1, hz2, hz3⟩
        · have HN := Lib.hid (HNX.out hc); clear hc
          go_wp2_with fail
          go_round
          case rel => exact ⟨k + 1, hlt, by go_num, HN.out⟩
          case measure => simp [intOf]; omega
        · have HN := Lib.hid (HNX.out hc); clear hc
          go_wp2_with fail
          go_round
          case rel => exact ⟨k + 1, hlt, by go_num, HN.out⟩
          case measure => simp [intOf]; omega
        · have HN := Lib.hid (HNX.out hc)
          have hz3 : ((s[k].toNat : Int) != 45) = false := by simp; omega
          have hz4 : s[k].toNat < 48 := by omega
          have hz5 : s[k].toNat < 97 := by omega
          clear hc hz1
          go_wp2_with fail
          go_round
          case rel => exact ⟨k + 1, hlt, by go_num, HN.out⟩
          case measure => simp [intOf]; omega
        · have HR := Lib.hid (HG.out hc)
          have hz4 := (cj (show (s[k].toNat : Int) ≠ 45 by omega)).2
          clear hc hz3
          rcases hz1 with hz1 | hz1
          all_goals
            rcases hz2 with hz2 | hz2
            all_goals
              try (exfalso; omega)
              try (
                go_wp2_with fail
                go_ret
                exact ⟨bn HR.out.symm, rfl⟩)
      · have HR := Lib.hid (AY (l := s.data.toList) (by rw [HLN.out]; exact HOK.out) (fun j hj => HA.out j hj (by have := HLN.out; omega)))
        go_wp2_with fail
        go_ret
        exact ⟨bn HR.out.symm, rfl⟩
  · have HR := Lib.hid (yT (l := s.data.toList) (by rw [hlen]; exact hl))
    clear hlen
    go_enter Tryz.func67, Tryz.ntmps67
    go_wp2_with fail
    all_goals
      first
        | (go_ret; exact ⟨bn HR.out.symm, rfl⟩)
        | (exfalso; omega)
theorem gC (s : ByteArray) (w : World) (hs : s.size ≤ 4611686018427387900) :
    Calls Tryz.prog 40 #[.string s] w fun e w' => e = .returned (.string ⟨(aZ s).toArray⟩) ∧ Below w.heap.size w w' := by
  have hw : IntKind.u64.wrap (s.size : Int) = s.size := by rw [IntKind.wrap_u64]; omega
  have HP := Lib.hid (fun w => iq s.size w (by omega))
  have hpl := cP s.size
  have hsz : (⟨(aM s.size).toArray⟩ : ByteArray).size = (aM s.size).length := by show (aM s.size).toArray.size = _; simp
  have hno : ¬ 9223372036854775807 < (aM s.size).length + s.size := by omega
  have HE := Lib.hid (show ((⟨(aM s.size).toArray⟩ : ByteArray) ++ s : ByteArray) = ⟨(aZ s).toArray⟩ from ByteArray.ext (Array.ext' (by simp [ByteArray.data_append, aZ])))
  go_enter Tryz.func40, Tryz.ntmps40
  go_wp2_with fail
  refine (HP.out _).mono ?_; rintro e w1 ⟨rfl, hb⟩
  go_wp2_with fail
  go_ret
  exact ⟨qF HE.out, hb⟩
end Go.Proofs.YtklcfjlmlbnkaaaGreatDoor
namespace Go.Proofs.YtklcfjlmlbnkaaaGreatDoor
open Go.RowKit
def MsIn (w : World) (v : Value) (ms : List (ByteArray × ByteArray)) : Prop :=
  ∃ (a : Option Addr) (cap : Nat), v = .slice a ms.length cap ∧ (ms ≠ [] → ∃ g o, a = some ⟨g, o, none⟩ ∧ g < w.heap.size ∧ ∀ i (h : i < ms.length), w.cell? ⟨g, o + i * 2, none⟩ = some (.string ms[i].1) ∧ w.cell? ⟨g, o + i * 2 + 1, none⟩ = some (.string ms[i].2))
theorem MsIn.below {w w' : World} {v : Value} {ms : List (ByteArray × ByteArray)} (h : MsIn w v ms) (hb : Below w.heap.size w w') : MsIn w' v ms := by
  obtain ⟨a, cap, hv, hc⟩ := h
  refine ⟨a, cap, hv, fun hne => ?_⟩
  obtain ⟨g, o, ha, hg, eJ⟩ := hc hne
  exact ⟨g, o, ha, Nat.lt_of_lt_of_le hg hb.size, fun i hi => ⟨(hb.cell (p := ⟨g, o + i * 2, none⟩) hg).trans (eJ i hi).1, (hb.cell (p := ⟨g, o + i * 2 + 1, none⟩) hg).trans (eJ i hi).2⟩⟩
theorem kr {B : Nat} {a w : World} (h : Below B a w) (n : Nat) : Below B a (w.drewN n) := ⟨h.os, h.tape, h.output, h.size, h.block⟩
def lg (h : jU) : Prop := h.svc.size < 4294967281 ∧ h.mth.size < 4294967281 ∧ ∀ m ∈ h.metas, m.1.size < 4294967281 ∧ m.2.size < 4294967281
abbrev HT : TypeId := 54
abbrev MT : TypeId := 85
abbrev eJ (h : jU) (v : Value) : Array Value := #[.string h.svc, .string h.mth, .int .i64 h.late, v]
theorem eB {f : FuncId} {s : ByteArray} {b : Bool} {P : Bool} {w : World} (h : P = b) (hc : Calls Tryz.prog f #[.string s] w fun e w' => e = .returned (.bool P) ∧ Below w.heap.size w w') :
    Calls Tryz.prog f #[.string s] w fun e w' => e = .returned (.bool b) ∧ Below w.heap.size w w' := by subst h; exact hc
theorem A2 {ms : List (ByteArray × ByteArray)} {k : Nat} (h : k - 1 < ms.length) : iu ms k = ms[k - 1].1 := by unfold iu; rw [List.getD_eq_getElem?_getD, List.getElem?_eq_getElem h]; rfl
set_option maxHeartbeats 4000000 in
set_option maxRecDepth 100000 in
theorem nK (svc mth : ByteArray) (late : Int) (ms : List (ByteArray × ByteArray)) (g o cap : Nat) (w : World) (hg : MLen w) (hgl : g < w.heap.size) (hcs : ∀ i (h : i < ms.length), w.cell? ⟨g, o + i * 2, none⟩ = some (.string ms[i].1) ∧ w.cell? ⟨g, o + i * 2 + 1, none⟩ = some (.string ms[i].2)) (hz : lg ⟨svc, mth, late, ms⟩) :
    Calls Tryz.prog 38 #[.agg #[.string svc, .string mth, .int .i64 late, .slice (some ⟨g, o, none⟩) ms.length cap]] w fun e w' => e = .returned (.int .i64 (bQ ⟨svc, mth, late, ms⟩)) ∧ Below w.heap.size w w' := by
  obtain ⟨z1, z2, z3⟩ := hz
  have hE : bQ ⟨svc, mth, late, ms⟩ = if fP svc.data.toList = false ∨ bV mth.data.toList = false then 8 else if late < 0 ∨ 1099511627776 < late then 6 else if 16 < ms.length then 3 else gT 0 ⟨#[]⟩ ms := rfl
  have HE := Lib.hid hE; clear hE
  have HB0 := Lib.hid (show Below w.heap.size w (w.alloc (.cells (eJ ⟨svc, mth, late, ms⟩ (.slice (some ⟨g, o, none⟩) ms.length cap)) HT)) from (Below.refl _ _).alloc (Nat.le_refl _) _)
  have HF := Lib.hid (fun w hg => oM svc w hg z1)
  have HP := Lib.hid (fun w => jz mth w (by have : mth.size < 4294967281 := z2; omega))
  have HK0 := Lib.hid (Bk.new w HT (eJ ⟨svc, mth, late, ms⟩ (.slice (some ⟨g, o, none⟩) ms.length cap)))
  have HG0 := Lib.hid (hg.below HB0.out); clear hg
  have HM := Lib.hid hcs; clear hcs
  have HZ3 := Lib.hid z3; clear z1 z2 z3
  generalize bQ ⟨svc, mth, late, ms⟩ = R at *
  cases hf : fP svc.data.toList with
  | false =>
    have HFC := Lib.hid (fun w hg => eB hf (HF.out w hg))
    have HR := Lib.hid (show R = 8 by rw [HE.out, if_pos (.inl hf)])
    clear hf
    go_enter Tryz.func38, Tryz.ntmps38
    go_wp2_with fail
    refine (HFC.out _ HG0.out).mono ?_; rintro e w1 ⟨rfl, hb1⟩
    go_wp2_with fail
    go_ret
    exact ⟨bN (by rw [HR.out]), HB0.out.trans (hb1.mono HB0.out.size)⟩
  | true =>
  have HFC := Lib.hid (fun w hg => eB hf (HF.out w hg))
  cases hp : bV mth.data.toList with
  | false =>
    have HPC := Lib.hid (fun w => eB hp (HP.out w))
    have HR := Lib.hid (show R = 8 by rw [HE.out, if_pos (.inr hp)])
    clear hf hp
    go_enter Tryz.func38, Tryz.ntmps38
    go_wp2_with fail
    refine (HFC.out _ HG0.out).mono ?_; rintro e w1 ⟨rfl, hb1⟩
    have HK1 := Lib.hid (HK0.out.keep hb1)
    have c1 : w1.cell? ⟨w.heap.size, 1, none⟩ = some (.string mth) := HK1.out.at_ 1 rfl
    have HB1 := Lib.hid (HB0.out.trans (hb1.mono HB0.out.size)); clear hb1
    go_wp2_with fail
    refine (HPC.out _).mono ?_; rintro e w2 ⟨rfl, hb2⟩
    go_wp2_with fail
    go_ret
    exact ⟨bN (by rw [HR.out]), HB1.out.trans (hb2.mono HB1.out.size)⟩
  | true =>
  have HPC := Lib.hid (fun w => eB hp (HP.out w))
  have HE2 := Lib.hid (show R = if late < 0 ∨ 1099511627776 < late then 6 else if 16 < ms.length then 3 else gT 0 ⟨#[]⟩ ms by rw [HE.out, if_neg (by simp [hf, hp])])
  clear hf hp
  go_enter Tryz.func38, Tryz.ntmps38
  go_wp2_with fail
  refine (HFC.out _ HG0.out).mono ?_; rintro e w1 ⟨rfl, hb1⟩
  have HK1 := Lib.hid (HK0.out.keep hb1)
  have c1 : w1.cell? ⟨w.heap.size, 1, none⟩ = some (.string mth) := HK1.out.at_ 1 rfl
  have HB1 := Lib.hid (HB0.out.trans (hb1.mono HB0.out.size)); clear hb1
  go_wp2_with fail
  refine (HPC.out _).mono ?_; rintro e w2 ⟨rfl, hb2⟩
  have HK2 := Lib.hid (HK1.out.keep hb2)
  have HB2 := Lib.hid (HB1.out.trans (hb2.mono HB1.out.size)); clear hb2 c1
  have c2 : w2.cell? ⟨w.heap.size, 2, none⟩ = some (.int .i64 late) := HK2.out.at_ 2 rfl
  have c3 : w2.cell? ⟨w.heap.size, 3, none⟩ = some (.slice (some ⟨g, o, none⟩) ms.length cap) := HK2.out.at_ 3 rfl
  by_cases hl1 : late < 0
  · have HR := Lib.hid (show R = 6 by rw [HE2.out, if_pos (.inl hl1)])
    go_wp2_with fail
    go_ret
    exact ⟨bN (by rw [HR.out]), HB2.out⟩
  by_cases hl2 : 1099511627776 < late
  · have HR := Lib.hid (show R = 6 by rw [HE2.out, if_pos (.inr hl2)])
    go_wp2_with fail
    go_ret
    exact ⟨bN (by rw [HR.out]), HB2.out⟩
  by_cases hl3 : 16 < ms.length
  · have HR := Lib.hid (show R = 3 by rw [HE2.out, if_neg (by omega), if_pos hl3])
    go_wp2_with fail
    go_ret
    exact ⟨bN (by rw [HR.out]), HB2.out⟩
  have HE3 := Lib.hid (show R = gT 0 (iu ms 0) (ms.drop 0) by
    rw [HE2.out, if_neg (by omega), if_neg hl3, List.drop_zero]
    cases ms with
    | nil => rfl
    | cons m r => obtain ⟨k, v⟩ := m; rfl)
  go_wp2_with fail
  go_loopw [33] (fun x wr => ∃ k : Nat, k ≤ ms.length ∧ x = .int .i64 k ∧ Below (w.heap.size + 1) w2 wr ∧ R = gT k (iu ms k) (ms.drop k)) (fun x _ => ms.length - (intOf x).toNat)
  case atStart => exact ⟨0, Nat.zero_le _, rfl, Below.refl _ _, HE3.out⟩
  case round =>
    obtain ⟨k, hk, rfl, hb, hr⟩ := hrel
    have HX := Lib.hid hr; have HB := Lib.hid hb; clear hr hb
    by_cases hlt : k < ms.length
    · have hbw : Below w.heap.size w wr := HB2.out.trans (HB.out.mono (Nat.le_succ _))
      have HBW := Lib.hid hbw
      have HAL := Lib.hid ((Below.refl wr.heap.size wr).alloc (Nat.le_refl _) (.cells #[.string ms[k].1, .string ms[k].2] MT))
      have hck := HM.out k hlt
      have hc4 : wr.cell? ⟨g, o + k * 2, none⟩ = some (.string ms[k].1) := (hbw.cell (p := ⟨g, o + k * 2, none⟩) hgl).trans hck.1
      have hc5 : wr.cell? ⟨g, o + k * 2 + 1, none⟩ = some (.string ms[k].2) := (hbw.cell (p := ⟨g, o + k * 2 + 1, none⟩) hgl).trans hck.2
      have hsz1 : w.heap.size + 1 ≤ wr.heap.size := Nat.le_trans HK2.out.here HB.out.size
      have HST := Lib.hid (vX hlt (iu ms k))
      obtain ⟨y1, y2⟩ := HZ3.out ms[k] (List.getElem_mem hlt)
      have HKY := Lib.hid (fun w => DC ms[k].1 w (by omega))
      have HVL := Lib.hid (fun w => mh ms[k].2 w (by omega))
      have HPV := Lib.hid (fun (h : 0 < k) => show wr.cell? ⟨g, o + (k - 1) * 2, none⟩ = some (.string (iu ms k)) from by
        have e : iu ms k = (ms[k - 1]'(by omega)).1 := A2 (by omega)
        rw [e]
        exact (hbw.cell (p := ⟨g, o + (k - 1) * 2, none⟩) hgl).trans (HM.out (k - 1) (by omega)).1)
      clear hbw hck y1 y2
      generalize hky : ms[k].1 = ky at *
      generalize hvl : ms[k].2 = vl at *
      generalize iu ms k = pv at *
      clear hky hvl
      have hcr3 : wr.cell? ⟨w.heap.size, 3, none⟩ = some (.slice (some ⟨g, o, none⟩) ms.length cap) := (HB.out.cell (p := ⟨w.heap.size, 3, none⟩) (Nat.lt_succ_self _)).trans c3
      cases hko : jK ky.data.toList with
      | false =>
        have HR := Lib.hid (show R = 8 by rw [HX.out, HST.out, if_pos hko])
        have HKC := Lib.hid (fun w => xA hko (HKY.out w))
        clear hko
        go_wp2_with fail
        refine (HKC.out _).mono ?_; rintro e w3 ⟨rfl, rfl⟩
        go_wp2_with fail
        go_ret
        exact ⟨bN (by rw [HR.out]), HBW.out.trans (HAL.out.mono HBW.out.size)⟩
      | true =>
      have HKC := Lib.hid (fun w => xA hko (HKY.out w))
      by_cases hv200 : 200 < vl.size
      · have HR := Lib.hid (show R = 3 by rw [HX.out, HST.out, if_neg (by rw [hko]; simp), if_pos hv200])
        clear hko
        go_wp2_with fail
        refine (HKC.out _).mono ?_; rintro e w3 ⟨rfl, rfl⟩
        go_wp2_with fail
        go_ret
        exact ⟨bN (by rw [HR.out]), HBW.out.trans (HAL.out.mono HBW.out.size)⟩
      cases hvo : kg vl with
      | false =>
        have HR := Lib.hid (show R = 7 by rw [HX.out, HST.out, if_neg (by rw [hko]; simp), if_neg hv200, if_pos hvo])
        have HVC := Lib.hid (fun w => eB hvo (HVL.out w))
        clear hko hvo
        go_wp2_with fail
        refine (HKC.out _).mono ?_; rintro e w3 ⟨rfl, rfl⟩
        go_wp2_with fail
        refine (HVC.out _).mono ?_; rintro e w4 ⟨rfl, hb4⟩
        go_wp2_with fail
        go_ret
        exact ⟨bN (by rw [HR.out]), (HBW.out.trans (HAL.out.mono HBW.out.size)).trans (hb4.mono (by have := HBW.out.size; simp; omega))⟩
      | true =>
      have HVC := Lib.hid (fun w => eB hvo (HVL.out w))
      have HST2 := Lib.hid (show R = if 0 < k ∧ Op.bytesLess pv.toList ky.toList = false then 11 else gT (k + 1) (iu ms (k + 1)) (ms.drop (k + 1)) by rw [HX.out, HST.out, if_neg (by rw [hko]; simp), if_neg hv200, if_neg (by rw [hvo]; simp)])
      clear hko hvo
      by_cases hk0 : k = 0
      · subst hk0
        have hc4' : wr.cell? ⟨g, o, none⟩ = some (.string ky) := by simpa using hc4
        have hc5' : wr.cell? ⟨g, o + 1, none⟩ = some (.string vl) := by simpa using hc5
        clear hc4 hc5
        have HS := Lib.hid (show R = gT (0 + 1) (iu ms (0 + 1)) (ms.drop (0 + 1)) by rw [HST2.out, if_neg (by omega)])
        go_wp2_with fail
        refine (HKC.out _).mono ?_; rintro e w3 ⟨rfl, rfl⟩
        go_wp2_with fail
        refine (HVC.out _).mono ?_; rintro e w4 ⟨rfl, hb4⟩
        have HB4 := Lib.hid ((HB.out.trans (HAL.out.mono hsz1)).trans (hb4.mono (by simp; omega)))
        clear hb4
        go_wp2_with fail
        go_quiet (fail)
        go_wp2_with fail
        go_roundw
        case rel => exact ⟨0 + 1, hlt, by go_num, kr HB4.out _, HS.out⟩
        case measure => simp [intOf]; omega
      · have hkp : 0 < k := by omega
        have HPC := Lib.hid (HPV.out hkp)
        have hk1 : (0 : Int) < (k : Int) := by omega
        have hk2 : decide ((k : Int) > 0) = true := decide_eq_true hk1
        have HLN := Lib.hid (tT pv.toList ky.toList)
        clear hk0
        cases hls : Op.bytesLess pv.toList ky.toList with
        | false =>
          have HR := Lib.hid (show R = 11 by rw [HST2.out, if_pos ⟨hkp, hls⟩])
          have hle : (Op.bytesLess ky.toList pv.toList || ky.toList == pv.toList) = true := by rw [HLN.out, hls]; rfl
          clear hls
          go_wp2_with fail
          refine (HKC.out _).mono ?_; rintro e w3 ⟨rfl, rfl⟩
          go_wp2_with fail
          refine (HVC.out _).mono ?_; rintro e w4 ⟨rfl, hb4⟩
          have HB4B := Lib.hid ((hb4.mono (show w.heap.size ≤ _ by have := HBW.out.size; simp; omega)))
          have HB4 := Lib.hid ((HB.out.trans (HAL.out.mono hsz1)).trans (hb4.mono (by simp; omega)))
          have hd1 : w4.cell? ⟨wr.heap.size, 0, none⟩ = some (.string ky) := (hb4.cell (p := ⟨wr.heap.size, 0, none⟩) (by simp)).trans (by rw [World.cell?_alloc_mark]; rfl)
          have hd2 : w4.cell? ⟨w.heap.size, 3, none⟩ = some (.slice (some ⟨g, o, none⟩) ms.length cap) := (HB4.out.cell (p := ⟨w.heap.size, 3, none⟩) (Nat.lt_succ_self _)).trans c3
          have hd3 : w4.cell? ⟨g, o + (k - 1) * 2, none⟩ = some (.string pv) := by
            refine ((hb4.cell (p := ⟨g, o + (k - 1) * 2, none⟩) (by simp; omega)).trans ?_).trans HPC.out
            exact HAL.out.cell (p := ⟨g, o + (k - 1) * 2, none⟩) (by show g < _; omega)
          clear hb4 hc4 hc5 hcr3
          have hw2 : 0 ≤ (k : Int) - 1 := by omega
          have hw3 : (1 : Int) ≤ (k : Int) := by omega
          have hw4 : (k : Int) - 1 < (ms.length : Int) := by omega
          have hw5 : ((k : Int) - 1).toNat = k - 1 := by omega
          have hw1 : IntKind.i64.wrap ((k : Int) - 1) = (k : Int) - 1 := IntWalk.i64_in _ (by omega)
          go_wp2_with fail
          go_quiet (fail)
          clear hw1 hw2 hw3 hw4 hw5
          go_wp2_with fail
          go_ret
          exact ⟨bN (by rw [HR.out]), (HBW.out.trans (HAL.out.mono HBW.out.size)).trans (kr HB4B.out _)⟩
        | true =>
          have HS := Lib.hid (show R = gT (k + 1) (iu ms (k + 1)) (ms.drop (k + 1)) by rw [HST2.out, if_neg (by rw [hls]; simp)])
          have hle : (Op.bytesLess ky.toList pv.toList || ky.toList == pv.toList) = false := by rw [HLN.out, hls]; rfl
          clear hls
          go_wp2_with fail
          refine (HKC.out _).mono ?_; rintro e w3 ⟨rfl, rfl⟩
          go_wp2_with fail
          refine (HVC.out _).mono ?_; rintro e w4 ⟨rfl, hb4⟩
          have HB4B := Lib.hid ((hb4.mono (show w.heap.size ≤ _ by have := HBW.out.size; simp; omega)))
          have HB4 := Lib.hid ((HB.out.trans (HAL.out.mono hsz1)).trans (hb4.mono (by simp; omega)))
          have hd1 : w4.cell? ⟨wr.heap.size, 0, none⟩ = some (.string ky) := (hb4.cell (p := ⟨wr.heap.size, 0, none⟩) (by simp)).trans (by rw [World.cell?_alloc_mark]; rfl)
          have hd2 : w4.cell? ⟨w.heap.size, 3, none⟩ = some (.slice (some ⟨g, o, none⟩) ms.length cap) := (HB4.out.cell (p := ⟨w.heap.size, 3, none⟩) (Nat.lt_succ_self _)).trans c3
          have hd3 : w4.cell? ⟨g, o + (k - 1) * 2, none⟩ = some (.string pv) := by
            refine ((hb4.cell (p := ⟨g, o + (k - 1) * 2, none⟩) (by simp; omega)).trans ?_).trans HPC.out
            exact HAL.out.cell (p := ⟨g, o + (k - 1) * 2, none⟩) (by show g < _; omega)
          clear hb4 hc4 hc5 hcr3
          have hw2 : 0 ≤ (k : Int) - 1 := by omega
          have hw3 : (1 : Int) ≤ (k : Int) := by omega
          have hw4 : (k : Int) - 1 < (ms.length : Int) := by omega
          have hw5 : ((k : Int) - 1).toNat = k - 1 := by omega
          have hw1 : IntKind.i64.wrap ((k : Int) - 1) = (k : Int) - 1 := IntWalk.i64_in _ (by omega)
          go_wp2_with fail
          go_quiet (fail)
          clear hw1 hw2 hw3 hw4 hw5
          go_wp2_with fail
          go_roundw
          case rel => exact ⟨k + 1, hlt, by go_num, kr HB4.out _, HS.out⟩
          case measure => simp [intOf]; omega
    · have HR := Lib.hid (show R = 0 by rw [HX.out, List.drop_eq_nil_of_le (by omega)]; rfl)
      go_wp2_with fail
      go_ret
      exact ⟨bN (by rw [HR.out]), HB2.out.trans (HB.out.mono (Nat.le_succ _))⟩
set_option maxHeartbeats 4000000 in
set_option maxRecDepth 100000 in
theorem oP (svc mth : ByteArray) (late : Int) (a : Option Addr) (cap : Nat) (w : World) (hg : MLen w) (hz : lg ⟨svc, mth, late, []⟩) :
    Calls Tryz.prog 38 #[.agg #[.string svc, .string mth, .int .i64 late, .slice a 0 cap]] w fun e w' => e = .returned (.int .i64 (bQ ⟨svc, mth, late, []⟩)) ∧ Below w.heap.size w w' := by
  obtain ⟨z1, z2, z3⟩ := hz
  have hE : bQ ⟨svc, mth, late, []⟩ = if fP svc.data.toList = false ∨ bV mth.data.toList = false then 8 else if late < 0 ∨ 1099511627776 < late then 6 else if 16 < ([] : List (ByteArray × ByteArray)).length then 3 else gT 0 ⟨#[]⟩ [] := rfl
  have HE := Lib.hid hE; clear hE
  have HB0 := Lib.hid (show Below w.heap.size w (w.alloc (.cells (eJ ⟨svc, mth, late, []⟩ (.slice a 0 cap)) HT)) from (Below.refl _ _).alloc (Nat.le_refl _) _)
  have HF := Lib.hid (fun w hg => oM svc w hg z1)
  have HP := Lib.hid (fun w => jz mth w (by have : mth.size < 4294967281 := z2; omega))
  have HK0 := Lib.hid (Bk.new w HT (eJ ⟨svc, mth, late, []⟩ (.slice a 0 cap)))
  have HG0 := Lib.hid (hg.below HB0.out); clear hg
  clear z1 z2 z3
  generalize bQ ⟨svc, mth, late, []⟩ = R at *
  cases hf : fP svc.data.toList with
  | false =>
    have HFC := Lib.hid (fun w hg => eB hf (HF.out w hg))
    have HR := Lib.hid (show R = 8 by rw [HE.out, if_pos (.inl hf)])
    clear hf
    go_enter Tryz.func38, Tryz.ntmps38
    go_wp2_with fail
    refine (HFC.out _ HG0.out).mono ?_; rintro e w1 ⟨rfl, hb1⟩
    go_wp2_with fail
    go_ret
    exact ⟨bN (by rw [HR.out]), HB0.out.trans (hb1.mono HB0.out.size)⟩
  | true =>
  have HFC := Lib.hid (fun w hg => eB hf (HF.out w hg))
  cases hp : bV mth.data.toList with
  | false =>
    have HPC := Lib.hid (fun w => eB hp (HP.out w))
    have HR := Lib.hid (show R = 8 by rw [HE.out, if_pos (.inr hp)])
    clear hf hp
    go_enter Tryz.func38, Tryz.ntmps38
    go_wp2_with fail
    refine (HFC.out _ HG0.out).mono ?_; rintro e w1 ⟨rfl, hb1⟩
    have HK1 := Lib.hid (HK0.out.keep hb1)
    have c1 : w1.cell? ⟨w.heap.size, 1, none⟩ = some (.string mth) := HK1.out.at_ 1 rfl
    have HB1 := Lib.hid (HB0.out.trans (hb1.mono HB0.out.size)); clear hb1
    go_wp2_with fail
    refine (HPC.out _).mono ?_; rintro e w2 ⟨rfl, hb2⟩
    go_wp2_with fail
    go_ret
    exact ⟨bN (by rw [HR.out]), HB1.out.trans (hb2.mono HB1.out.size)⟩
  | true =>
  have HPC := Lib.hid (fun w => eB hp (HP.out w))
  have HE2 := Lib.hid (show R = if late < 0 ∨ 1099511627776 < late then 6 else if 16 < ([] : List (ByteArray × ByteArray)).length then 3 else gT 0 ⟨#[]⟩ [] by rw [HE.out, if_neg (by simp [hf, hp])])
  clear hf hp
  go_enter Tryz.func38, Tryz.ntmps38
  go_wp2_with fail
  refine (HFC.out _ HG0.out).mono ?_; rintro e w1 ⟨rfl, hb1⟩
  have HK1 := Lib.hid (HK0.out.keep hb1)
  have c1 : w1.cell? ⟨w.heap.size, 1, none⟩ = some (.string mth) := HK1.out.at_ 1 rfl
  have HB1 := Lib.hid (HB0.out.trans (hb1.mono HB0.out.size)); clear hb1
  go_wp2_with fail
  refine (HPC.out _).mono ?_; rintro e w2 ⟨rfl, hb2⟩
  have HK2 := Lib.hid (HK1.out.keep hb2)
  have HB2 := Lib.hid (HB1.out.trans (hb2.mono HB1.out.size)); clear hb2 c1
  have c2 : w2.cell? ⟨w.heap.size, 2, none⟩ = some (.int .i64 late) := HK2.out.at_ 2 rfl
  have c3 : w2.cell? ⟨w.heap.size, 3, none⟩ = some (.slice a 0 cap) := HK2.out.at_ 3 rfl
  by_cases hl1 : late < 0
  · have HR := Lib.hid (show R = 6 by rw [HE2.out, if_pos (.inl hl1)])
    go_wp2_with fail
    go_ret
    exact ⟨bN (by rw [HR.out]), HB2.out⟩
  by_cases hl2 : 1099511627776 < late
  · have HR := Lib.hid (show R = 6 by rw [HE2.out, if_pos (.inr hl2)])
    go_wp2_with fail
    go_ret
    exact ⟨bN (by rw [HR.out]), HB2.out⟩
  have HR := Lib.hid (show R = 0 by rw [HE2.out, if_neg (by omega), if_neg (by simp)]; rfl)
  go_wp2_with fail
  refine wp_loop_rounds 1 ?_
  rw [rounds_succ]
  go_wp2_with fail
  go_ret
  exact ⟨bN (by rw [HR.out]), HB2.out⟩
theorem wd (h : jU) (v : Value) (w : World) (hg : MLen w) (hm : MsIn w v h.metas) (hz : lg h) :
    Calls Tryz.prog 38 #[.agg (eJ h v)] w fun e w' => e = .returned (.int .i64 (bQ h)) ∧ Below w.heap.size w w' := by
  obtain ⟨svc, mth, late, ms⟩ := h
  obtain ⟨a, cap, rfl, hcs⟩ := hm
  cases ms with
  | nil => exact oP svc mth late a cap w hg hz
  | cons m r =>
    obtain ⟨g, o, rfl, hgl, hc⟩ := hcs (by simp)
    exact nK svc mth late (m :: r) g o cap w hg hgl hc hz
end Go.Proofs.YtklcfjlmlbnkaaaGreatDoor
namespace Go.Proofs.YtklcfjlmlbnkaaaGreatDoor
open Go.RowKit
end Go.Proofs.YtklcfjlmlbnkaaaGreatDoor
namespace Go.Proofs.YtklcfjlmlbnkaaaGreatDoor
open Go.RowKit
theorem xC : (Tryz.prog.info? 109).map (·.size) = some 2 := by kernel_rfl
theorem DD : liesAt Tryz.prog Tryz.prog.depth 109 (2 / Tryz.prog.cellsOf 109) 0 109 1 = true := by kernel_rfl
theorem infoByte : (Tryz.prog.info? 5).map (fun i => (i.zero, i.size, i.bytes)) = some (some (.int .u8 0), 1, 1) := by kernel_rfl
set_option maxHeartbeats 1000000 in
set_option maxRecDepth 100000 in
theorem DE (b : Nat) (w : World) (h0 : w.cell? ⟨b, 0, none⟩ = some (.pointer (some ⟨b, 0, none⟩))) :
    Calls Tryz.prog 69 #[.pointer (some ⟨b, 0, none⟩)] w fun e w' => e = .returned (.tuple #[]) ∧ w' = w := by
  obtain ⟨j, hj, _⟩ := Option.map_eq_some_iff.1 xC
  go_enter Tryz.func69, Tryz.ntmps69
  go_wp2
  rw [Lib.run_neq_ptr_same w _ Tryz.underlying106 hj]
  go_wp2
  go_end0
  exact ⟨rfl, rfl⟩
set_option maxHeartbeats 1000000 in
set_option maxRecDepth 100000 in
theorem A3 (b : Nat) (w : World) (h0 : w.cell? ⟨b, 0, none⟩ = some (.pointer none)) (hsh : w.shape? b = some (109, 2)) (hfz : w.frozen? ⟨b, 0, none⟩ = false) :
    Calls Tryz.prog 69 #[.pointer (some ⟨b, 0, none⟩)] w fun e w' => e = .returned (.tuple #[]) ∧ w' = w.setCell ⟨b, 0, none⟩ (.pointer (some ⟨b, 0, none⟩)) := by
  obtain ⟨j, hj, hjs⟩ := Option.map_eq_some_iff.1 xC
  go_enter Tryz.func69, Tryz.ntmps69
  go_wp2
  rw [Lib.run_to_unsafe w ⟨b, 0, none⟩ Tryz.underlying106 Tryz.underlying173 hj (by rw [hjs]; decide) hsh (Nat.zero_lt_succ 1)]
  simp only [Result.andThen]
  rw [Oper.upon_value]
  go_wp2
  rw [run_callFunc_extern Tryz.func100 (by kernel_rfl) (by kernel_rfl) (by kernel_rfl) (e := Extern.AbiNoEscape.same) (by kernel_rfl)]
  rw [Lib.run_noEscape]
  simp only [Result.andThen]
  rw [Oper.upon_value]
  go_wp2
  rw [Lib.run_from_unsafe w ⟨b, 0, none⟩ Tryz.underlying173 Tryz.underlying106 hj hsh DD]
  simp only [Result.andThen]
  rw [Oper.upon_value]
  go_wp2
  go_end0
  exact ⟨rfl, rfl⟩
def IsB (B b : Nat) (l : List Value) (w : World) : Prop := Lib.IsBuilderF 109 5 B b l w
def Kept (b : Nat) (w w' : World) : Prop := Lib.OthersKept 5 (some b) w w'
theorem Fm (B b : Nat) (bs : List Value) (w : World) (h : IsB B b bs w) :
    Calls Tryz.prog 69 #[.pointer (some ⟨b, 0, none⟩)] w fun e w' => e = .returned (.tuple #[]) ∧ (Lib.BuilderAtF 109 5 B b (.pointer (some ⟨b, 0, none⟩)) bs w' ∧ Below B w w' ∧ Kept b w w') := by
  rcases h with h | h
  · refine (A3 b w h.cell0 h.shape h.frozen0).mono ?_
    rintro e w' ⟨rfl, rfl⟩
    exact ⟨rfl, h.used _, (Below.refl B w).setCell (p := ⟨b, 0, none⟩) h.1 _, (Lib.OthersKept.refl _ _ w).setCell ⟨b, 0, none⟩ rfl _⟩
  · refine (DE b w h.cell0).mono ?_
    rintro e w' ⟨rfl, rfl⟩
    exact ⟨rfl, h, Below.refl B _, Lib.OthersKept.refl _ _ _⟩
set_option maxHeartbeats 2000000 in
set_option maxRecDepth 100000 in
theorem Fo (B b : Nat) (bs : List Value) (s : ByteArray) (w : World) (h : IsB B b bs w) (hlen : bs.length + s.size ≤ 140737488355328) (hBw : B ≤ w.heap.size) :
    Calls Tryz.prog 39 #[.pointer (some ⟨b, 0, none⟩), .string s] w fun e w' => e = .returned (.tuple #[.int .i64 s.size, .nilIface]) ∧ (IsB B b (bs ++ Lib.strCells s) w' ∧ Below B w w' ∧ Kept b w w') := by
  obtain ⟨i0, hi, hz0, hz1, hz2⟩ := info_parts infoByte
  go_enter Tryz.func39, Tryz.ntmps39
  go_wp2_with fail
  refine (Fm B b bs _ h).mono ?_
  rintro e w1 ⟨rfl, h1, hb1, hk1⟩
  obtain ⟨hB, v, hbk, hown, hne⟩ := h1
  have c0 : w1.cell? ⟨b, 0, none⟩ = some (.pointer (some ⟨b, 0, none⟩)) := by rw [Lib.cell_of_heap hbk]; rfl
  have c1 : w1.cell? ⟨b, 1, none⟩ = some v := by rw [Lib.cell_of_heap hbk]; rfl
  go_wp2_with (at_builtin; refine Lib.wpList_append_own_stringF _ rfl _ _ 107 9 rfl B 5 i0 Tryz.underlying107 Tryz.underlying9 hi hz0 hz1 hz2 _ _ _ rfl hown s rfl ?c3 ?c4 ?c5 ?_)
  case c3 => unfold maxLen; omega
  case c4 => omega
  case c5 => have := hb1.size; omega
  intro v' w2 hown' hgrow _
  have hlt : b < w1.heap.size := by
    rcases Nat.lt_or_ge b w1.heap.size with h' | h'
    · exact h'
    · simp [Array.getElem?_eq_none h'] at hbk
  have hb2 : w2.heap[b]? = some (.cells #[.pointer (some ⟨b, 0, none⟩), v] 109 (0, 0)) := by
    rw [hgrow.block b hlt (fun e => hne e.symm)]
    exact hbk
  have d0 : w2.cell? ⟨b, 0, none⟩ = some (.pointer (some ⟨b, 0, none⟩)) := by rw [Lib.cell_of_heap hb2]; rfl
  have d1 : w2.cell? ⟨b, 1, none⟩ = some v := by rw [Lib.cell_of_heap hb2]; rfl
  have f1 : w2.frozen? ⟨b, 1, none⟩ = false := Lib.frozen_of_heap hb2 1
  obtain ⟨ao, n', cap, rfl⟩ : ∃ ao n' cap, v' = .slice ao n' cap := by
    rcases hown'.2 with ⟨hv, _⟩ | ⟨g, cap, cur, fz, hv, _⟩
    · exact ⟨_, _, _, hv⟩
    · exact ⟨_, _, _, hv⟩
  go_wp2
  go_ret2
  refine ⟨rfl, ?_, ?_, (hk1.grown hgrow (Lib.ownsRowF_kind hown)).setCell ⟨b, 1, none⟩ rfl _⟩
  · exact .inr (Lib.BuilderAtF.put (T := 109) (e := 5) hB hb2 (bs' := bs ++ Lib.strCells s) (by simpa [Lib.strCells_length] using hown') (by decide))
  · exact (hb1.grown hgrow (by have := hb1.size; omega) (fun k hk => (hown.lt k hk).1)).setCell (p := ⟨b, 1, none⟩) hB _
theorem xD (B b : Nat) (l : List UInt8) (w : World) (h : IsB B b (Lib.byteCells l) w) (hBw : B ≤ w.heap.size) :
    Calls Tryz.prog 42 #[.pointer (some ⟨b, 0, none⟩)] w fun e w' => e = .returned (.string ⟨l.toArray⟩) ∧ (IsB B b (Lib.byteCells l) w' ∧ Below B w w' ∧ Kept b w w') := Tryz.Builder_String_any_k B b l w h hBw
end Go.Proofs.YtklcfjlmlbnkaaaGreatDoor
namespace Go.Proofs.YtklcfjlmlbnkaaaGreatDoor
open Go.RowKit
def Fp : Op → RK
  | .convert _ _ _ => ⟨true, true⟩
  | .load _ _ => ⟨true, true⟩
  | .call { callee := .builtin .len, .. } => ⟨true, true⟩
  | o => tg o
theorem IsB.below {B b : Nat} {l : List Value} {w w' : World} (h : IsB B b l w) (hb : Below w.heap.size w w') : IsB B b l w' := by
  have key : ∀ p, Lib.BuilderAtF 109 5 B b p l w → Lib.BuilderAtF 109 5 B b p l w' := by
    rintro p ⟨hB, v, hv, hown, hne⟩
    have hlt : b < w.heap.size := Lib.BuilderAtF.lt ⟨hB, v, hv, hown, hne⟩
    exact ⟨hB, v, (hb.block b hlt).trans hv, hown.kept (row := none) (iv hb) (by cases hv : v.ownBlock <;> simp), hne⟩
  rcases h with h | h
  · exact .inl (key _ h)
  · exact .inr (key _ h)
theorem IsB.here {B b : Nat} {l : List Value} {w : World} (h : IsB B b l w) : B ≤ b ∧ b < w.heap.size := by
  rcases h with h | h
  · exact ⟨h.1, h.lt⟩
  · exact ⟨h.1, h.lt⟩
theorem IsB.fresh (w : World) (B : Nat) (hB : B ≤ w.heap.size) : IsB B w.heap.size [] (w.alloc (.cells #[.pointer none, .slice none 0 0] 109)) :=
  .inl ⟨hB, .slice none 0 0, heap_alloc_new w _, ⟨rfl, .inl ⟨rfl, rfl⟩⟩, by simp [Value.ownBlock]⟩
theorem Hz (B b : Nat) (l : List UInt8) (s : ByteArray) (w : World) (h : IsB B b (Lib.byteCells l) w) (hlen : l.length + s.size ≤ 140737488355328) (hBw : B ≤ w.heap.size) :
    Calls Tryz.prog 39 #[.pointer (some ⟨b, 0, none⟩), .string s] w fun e w' => e = .returned (.tuple #[.int .i64 s.size, .nilIface]) ∧ IsB B b (Lib.byteCells (l ++ s.data.toList)) w' ∧ Below B w w' ∧ Kept b w w' :=
  (Fo B b _ s w h (by simpa [Lib.byteCells] using hlen) hBw).mono fun e w' ⟨h1, h2, h3, h4⟩ => ⟨h1, by simpa [Lib.byteCells, Lib.strCells] using h2, h3, h4⟩
theorem Bk.kept {w w' : World} {k b : Nat} {ty : TypeId} {cs : Array Value} (h : Bk w k ty cs) (hk : Kept b w w') (hn : k ≠ b) (ht : ty ≠ 5) : Bk w' k ty cs :=
  hk k _ h (fun e => hn (Option.some.inj e)) (fun c fz e => ht (by injection e))
theorem tU {h : jU} (he : bQ h = 0) : 0 ≤ h.late ∧ h.late ≤ 1099511627776 ∧ h.metas.length ≤ 16 := by
  unfold bQ at he
  split at he
  · cases he
  · split at he
    · cases he
    · split at he
      · cases he
      · omega
theorem dC (s : ByteArray) : (aZ s).length ≤ 10 + s.size := by
  have := cP s.size
  have h2 : s.data.toList.length = s.size := by rw [Array.length_toList]; rfl
  unfold aZ; rw [List.length_append]; omega
def ku (h : jU) (k : Nat) : List UInt8 := (aZ h.svc ++ aZ h.mth ++ aM h.late.toNat ++ aM h.metas.length) ++ (h.metas.take k).flatMap tQ
theorem qJ (h : jU) {k : Nat} (hk : k < h.metas.length) : ku h (k + 1) = ku h k ++ tQ h.metas[k] := by
  unfold ku; rw [List.take_succ_eq_append_getElem hk, List.flatMap_append]; simp
theorem tV (h : jU) : ku h h.metas.length = ko h := by unfold ku ko; rw [List.take_length]
theorem oQ (h : jU) (hz : lg h) : ∀ k, k ≤ h.metas.length → (ku h k).length ≤ 10000000000 * (k + 1)
  | 0, _ => by
    have h1 := dC h.svc; have h2 := dC h.mth; have h3 := cP h.late.toNat; have h4 := cP h.metas.length
    obtain ⟨z1, z2, _⟩ := hz
    unfold ku; simp only [List.take_zero, List.flatMap_nil, List.append_nil, List.length_append]; omega
  | k + 1, hk => by
    have ih := oQ h hz k (by omega)
    obtain ⟨z1, z2⟩ := hz.2.2 h.metas[k] (List.getElem_mem (by omega))
    have h1 := dC h.metas[k].1; have h2 := dC h.metas[k].2
    rw [qJ h (by omega), List.length_append]
    unfold tQ; rw [List.length_append]; omega
theorem yV {h : jU} (he : bQ h ≠ 0) : jL h = ⟨[], bQ h⟩ := by unfold jL; rw [if_neg he]
theorem oR {h : jU} (he : bQ h = 0) : jL h = ⟨ko h, 0⟩ := by unfold jL; rw [if_pos he]
theorem A4 {f : FuncId} {args : Array Value} {a b : Int} {w : World} (h : a = b) (hc : Calls Tryz.prog f args w fun e w' => e = .returned (.int .i64 a) ∧ Below w.heap.size w w') :
    Calls Tryz.prog f args w fun e w' => e = .returned (.int .i64 b) ∧ Below w.heap.size w w' := by subst h; exact hc
set_option maxHeartbeats 4000000 in
set_option maxRecDepth 100000 in
theorem yW (svc mth : ByteArray) (late : Int) (ms : List (ByteArray × ByteArray)) (g o cap : Nat) (w : World) (hg : MLen w) (hgl : g < w.heap.size) (hcs : ∀ i (h : i < ms.length), w.cell? ⟨g, o + i * 2, none⟩ = some (.string ms[i].1) ∧ w.cell? ⟨g, o + i * 2 + 1, none⟩ = some (.string ms[i].2)) (hz : lg ⟨svc, mth, late, ms⟩) (he : bQ ⟨svc, mth, late, ms⟩ = 0) :
    Calls Tryz.prog 20 #[.agg #[.string svc, .string mth, .int .i64 late, .slice (some ⟨g, o, none⟩) ms.length cap]] w fun e w' => e = .returned (.tuple #[.string ⟨(ko ⟨svc, mth, late, ms⟩).toArray⟩, .int .i64 0]) ∧ Below w.heap.size w w' := by
  obtain ⟨hl1, hl2, hl3⟩ := tU he
  have hl1 : 0 ≤ late := hl1
  have hl2 : late ≤ 1099511627776 := hl2
  have hl3 : ms.length ≤ 16 := hl3
  obtain ⟨lt, rfl⟩ : ∃ n : Nat, late = n := ⟨late.toNat, by omega⟩
  have HE := Lib.hid (fun w hg hgl hcs => A4 he (nK svc mth lt ms g o cap w hg hgl hcs hz))
  have hp1 := dC svc; have hp2 := dC mth; have hp3 := cP lt; have hp4 := cP ms.length
  have z1 : svc.size < 4294967281 := hz.1
  have z2 : mth.size < 4294967281 := hz.2.1
  have HZ := Lib.hid hz
  have HS1 := Lib.hid (fun w => gC svc w (by omega)); have HS2 := Lib.hid (fun w => gC mth w (by omega))
  have HP1 := Lib.hid (fun w => iq lt w (by omega)); have HP2 := Lib.hid (fun w => iq ms.length w (by omega))
  have HB0 := Lib.hid (show Below w.heap.size w (w.alloc (.cells #[.string svc, .string mth, .int .i64 lt, .slice (some ⟨g, o, none⟩) ms.length cap] HT)) from (Below.refl _ _).alloc (Nat.le_refl _) _)
  have HK0 := Lib.hid (Bk.new w HT #[.string svc, .string mth, .int .i64 lt, .slice (some ⟨g, o, none⟩) ms.length cap])
  have HG0 := Lib.hid (hg.below HB0.out)
  have HC := Lib.hid hcs
  have HC0 := Lib.hid (show ∀ i (h : i < ms.length), (w.alloc (.cells #[.string svc, .string mth, .int .i64 lt, .slice (some ⟨g, o, none⟩) ms.length cap] HT)).cell? ⟨g, o + i * 2, none⟩ = some (.string ms[i].1) ∧ (w.alloc (.cells #[.string svc, .string mth, .int .i64 lt, .slice (some ⟨g, o, none⟩) ms.length cap] HT)).cell? ⟨g, o + i * 2 + 1, none⟩ = some (.string ms[i].2) from fun i h => ⟨(HB0.out.cell (p := ⟨g, o + i * 2, none⟩) hgl).trans (hcs i h).1, (HB0.out.cell (p := ⟨g, o + i * 2 + 1, none⟩) hgl).trans (hcs i h).2⟩)
  have hgl0 : g < (w.alloc (.cells #[.string svc, .string mth, .int .i64 lt, .slice (some ⟨g, o, none⟩) ms.length cap] HT)).heap.size := by simp; omega
  have HGL0 := Lib.hid hgl0; clear hgl0
  have hwl : IntKind.u64.wrap (lt : Int) = lt := by rw [IntKind.wrap_u64]; omega
  have hwn : IntKind.u64.wrap (ms.length : Int) = ms.length := by rw [IntKind.wrap_u64]; omega
  clear hg hcs hz he hl1 hl2 z1 z2
  go_enter Tryz.func20, Tryz.ntmps20
  go_wp2_with fail
  refine (HE.out _ HG0.out HGL0.out HC0.out).mono ?_; rintro e w1 ⟨rfl, hb1⟩
  have HB1 := Lib.hid (HB0.out.trans (hb1.mono HB0.out.size)); have HK1 := Lib.hid (HK0.out.keep hb1); clear hb1
  go_wp2_with fail
  have HK2 := Lib.hid (HK1.out.more (.cells #[.pointer none, .slice none 0 0] 109))
  have k0 : (w1.alloc (.cells #[.pointer none, .slice none 0 0] 109)).cell? ⟨w.heap.size, 0, none⟩ = some (.string svc) := HK2.out.at_ 0 rfl
  have k1 : (w1.alloc (.cells #[.pointer none, .slice none 0 0] 109)).cell? ⟨w.heap.size, 1, none⟩ = some (.string mth) := HK2.out.at_ 1 rfl
  have k2 : (w1.alloc (.cells #[.pointer none, .slice none 0 0] 109)).cell? ⟨w.heap.size, 2, none⟩ = some (.int .i64 lt) := HK2.out.at_ 2 rfl
  have k3 : (w1.alloc (.cells #[.pointer none, .slice none 0 0] 109)).cell? ⟨w.heap.size, 3, none⟩ = some (.slice (some ⟨g, o, none⟩) ms.length cap) := HK2.out.at_ 3 rfl
  have HN0 := Lib.hid (show w.heap.size + 1 ≤ (w1.alloc (.cells #[.pointer none, .slice none 0 0] 109)).heap.size by have := HK1.out.here; simp; omega)
  have HBB0 := Lib.hid (HB1.out.alloc HB1.out.size (.cells #[.pointer none, .slice none 0 0] 109))
  have HIS0 := Lib.hid (IsB.fresh w1 (w.heap.size + 1) HK1.out.here)
  have HBL := Lib.hid (show w.heap.size + 1 ≤ w1.heap.size from HK1.out.here)
  have HAL := Lib.hid (oQ ⟨svc, mth, lt, ms⟩ HZ.out)
  have HA0 := Lib.hid (show ku ⟨svc, mth, lt, ms⟩ 0 = aZ svc ++ aZ mth ++ aM lt ++ aM ms.length by unfold ku; simp)
  have hs1 := dB (aZ svc); have hs2 := dB (aZ mth); have hs3 := dB (aM lt); have hs4 := dB (aM ms.length)
  have z1 : svc.size < 4294967281 := HZ.out.1
  have z2 : mth.size < 4294967281 := HZ.out.2.1
  have hn1 : ¬ 9223372036854775807 < (aZ svc).length + (aZ mth).length := by omega
  have hn2 : ¬ 9223372036854775807 < (aZ svc).length + (aZ mth).length + (aM lt).length := by omega
  have hn3 : ¬ 9223372036854775807 < (aZ svc).length + (aZ mth).length + (aM lt).length + (aM ms.length).length := by omega
  have HX := Lib.hid (show (⟨(aZ svc).toArray⟩ ++ ⟨(aZ mth).toArray⟩ ++ ⟨(aM lt).toArray⟩ ++ ⟨(aM ms.length).toArray⟩ : ByteArray).data.toList = ku ⟨svc, mth, lt, ms⟩ 0 by rw [HA0.out]; simp [ByteArray.data_append])
  have HXS := Lib.hid (show (⟨(aZ svc).toArray⟩ ++ ⟨(aZ mth).toArray⟩ ++ ⟨(aM lt).toArray⟩ ++ ⟨(aM ms.length).toArray⟩ : ByteArray).size ≤ 10000000000 by rw [ByteArray.size_append, ByteArray.size_append, ByteArray.size_append, hs1, hs2, hs3, hs4]; omega)
  clear z1 z2
  generalize hAA : aZ svc = A at *
  generalize hBB : aZ mth = B at *
  generalize hCC : aM lt = C at *
  generalize hDD : aM ms.length = D at *
  clear hAA hBB hCC hDD
  refine dm (InvB (w.heap.size + 1) (w1.alloc (.cells #[.pointer none, .slice none 0 0] 109))) Fp (by kernel_rfl) (by kernel_rfl) (InvB.refl _ _).drew ?_
  ((refine aD J J _ (fun w' hI => by unfold InvB at hI; go_simp; rfl) (fun K hK => ?_); try go_simp; refine hK _ _ ?_; clear hK K))
  ((refine aD J J _ (fun w' hI => by unfold InvB at hI; go_simp; rfl) (fun K hK => ?_); try go_simp; refine hK _ _ ?_; clear hK K))
  refine bK J J J (fun K hK => ?_); go_simp
  refine (HS1.out _).mono ?_; rintro e x1 ⟨rfl, hb1⟩; try go_simp
  have HI1 := Lib.hid ((InvB.refl _ _).drew.below hb1 (show w.heap.size + 1 ≤ _ from HN0.out)); have HS1 := Lib.hid (Nat.le_trans HN0.out hb1.size)
  have HBB1 := Lib.hid (HBB0.out.drew.trans (hb1.mono (show w.heap.size ≤ _ from Nat.le_trans (Nat.le_succ _) HN0.out))); have HIS1 := Lib.hid (IsB.below (w := (w1.alloc (.cells #[.pointer none, .slice none 0 0] 109)).drew) HIS0.out hb1)
  refine hK _ _ ⟨HI1.out, ?_⟩; clear hK K hb1
  ((refine aD J J _ (fun w' hI => by unfold InvB at hI; go_simp; rfl) (fun K hK => ?_); try go_simp; refine hK _ _ ?_; clear hK K))
  ((refine aD J J _ (fun w' hI => by unfold InvB at hI; go_simp; rfl) (fun K hK => ?_); try go_simp; refine hK _ _ ?_; clear hK K))
  refine bK J J J (fun K hK => ?_); go_simp
  refine (HS2.out _).mono ?_; rintro e x2 ⟨rfl, hb2⟩; try go_simp
  have HI2 := Lib.hid (HI1.out.below hb2 HS1.out); have HS2 := Lib.hid (Nat.le_trans HS1.out hb2.size)
  have HBB2 := Lib.hid (HBB1.out.trans (hb2.mono HBB1.out.size)); have HIS2 := Lib.hid (HIS1.out.below hb2)
  refine hK _ _ ⟨HI2.out, ?_⟩; clear hK K hb2
  ((refine aD J J _ (fun w' hI => by unfold InvB at hI; go_simp; rfl) (fun K hK => ?_); try go_simp; refine hK _ _ ?_; clear hK K))
  ((refine aD J J _ (fun w' hI => by unfold InvB at hI; go_simp; rfl) (fun K hK => ?_); try go_simp; refine hK _ _ ?_; clear hK K))
  ((refine aD J J _ (fun w' hI => by unfold InvB at hI; go_simp; rfl) (fun K hK => ?_); try go_simp; refine hK _ _ ?_; clear hK K))
  ((refine aD J J _ (fun w' hI => by unfold InvB at hI; go_simp; rfl) (fun K hK => ?_); try go_simp; refine hK _ _ ?_; clear hK K))
  refine bK J J J (fun K hK => ?_); go_simp
  refine (HP1.out _).mono ?_; rintro e x3 ⟨rfl, hb3⟩; try go_simp
  have HI3 := Lib.hid (HI2.out.below hb3 HS2.out); have HS3 := Lib.hid (Nat.le_trans HS2.out hb3.size)
  have HBB3 := Lib.hid (HBB2.out.trans (hb3.mono HBB2.out.size)); have HIS3 := Lib.hid (HIS2.out.below hb3)
  refine hK _ _ ⟨HI3.out, ?_⟩; clear hK K hb3
  ((refine aD J J _ (fun w' hI => by unfold InvB at hI; go_simp; rfl) (fun K hK => ?_); try go_simp; refine hK _ _ ?_; clear hK K))
  ((refine aD J J _ (fun w' hI => by unfold InvB at hI; go_simp; rfl) (fun K hK => ?_); try go_simp; refine hK _ _ ?_; clear hK K))
  ((refine aD J J _ (fun w' hI => by unfold InvB at hI; go_simp; rfl) (fun K hK => ?_); try go_simp; refine hK _ _ ?_; clear hK K))
  ((refine aD J J _ (fun w' hI => by unfold InvB at hI; go_simp; rfl) (fun K hK => ?_); try go_simp; refine hK _ _ ?_; clear hK K))
  ((refine aD J J _ (fun w' hI => by unfold InvB at hI; go_simp; rfl) (fun K hK => ?_); try go_simp; refine hK _ _ ?_; clear hK K))
  refine bK J J J (fun K hK => ?_); go_simp
  refine (HP2.out _).mono ?_; rintro e x4 ⟨rfl, hb4⟩; try go_simp
  have HI4 := Lib.hid (HI3.out.below hb4 HS3.out); have HS4 := Lib.hid (Nat.le_trans HS3.out hb4.size)
  have HBB4 := Lib.hid (HBB3.out.trans (hb4.mono HBB3.out.size)); have HIS4 := Lib.hid (HIS3.out.below hb4)
  refine hK _ _ ⟨HI4.out, ?_⟩; clear hK K hb4
  ((refine aD J J _ (fun w' hI => by unfold InvB at hI; go_simp; rfl) (fun K hK => ?_); try go_simp; refine hK _ _ ?_; clear hK K))
  refine bK J J J (fun K hK => ?_); go_simp
  refine (Hz (w.heap.size + 1) _ [] _ _ HIS4.out (by have := HXS.out; simp only [List.length_nil]; omega) HS4.out).mono ?_; rintro e x5 ⟨rfl, his5, hb5, _⟩; try go_simp
  have HI5 := Lib.hid (HI4.out.below hb5 (Nat.le_refl _)); have HS5 := Lib.hid (Nat.le_trans HS4.out hb5.size)
  have HBB5 := Lib.hid (HBB4.out.trans (hb5.mono (Nat.le_succ _)))
  rw [List.nil_append, HX.out] at his5
  have HIS5 := Lib.hid his5; clear his5
  refine hK _ _ ⟨HI5.out, ?_⟩; clear hK K hb5
  refine eD ?_
  have k3' : x5.cell? ⟨w.heap.size, 3, none⟩ = some (.slice (some ⟨g, o, none⟩) ms.length cap) := (HI5.out _ _ (Nat.lt_succ_self _)).trans k3
  clear k0 k1 k2 k3 hs1 hs2 hs3 hs4 hn1 hn2 hn3 hp1 hp2 hp3 hp4 hwl hwn HS1 HS2 HP1 HP2 HIS0 HIS1 HIS2 HIS3 HIS4 HI1 HI2 HI3 HI4 HI5 HX HXS
  go_wp2_with fail
  have hb16 : (ms.length : Int) ≤ 16 := by omega
  go_loopw [35] (fun x wr => ∃ k : Nat, k ≤ ms.length ∧ x = .int .i64 k ∧ Below w.heap.size w wr ∧ IsB (w.heap.size + 1) w1.heap.size (Lib.byteCells (ku ⟨svc, mth, lt, ms⟩ k)) wr) (fun x _ => ms.length - (intOf x).toNat)
  case atStart => exact ⟨0, Nat.zero_le _, rfl, HBB5.out, HIS5.out⟩
  case round =>
    obtain ⟨k, hk, rfl, hbw, hisw⟩ := hrel
    have HBW := Lib.hid hbw; have HISW := Lib.hid hisw
    by_cases hlt : k < ms.length
    · have hck := HC.out k hlt
      have hc4 : wr.cell? ⟨g, o + k * 2, none⟩ = some (.string ms[k].1) := (hbw.cell (p := ⟨g, o + k * 2, none⟩) hgl).trans hck.1
      have hc5 : wr.cell? ⟨g, o + k * 2 + 1, none⟩ = some (.string ms[k].2) := (hbw.cell (p := ⟨g, o + k * 2 + 1, none⟩) hgl).trans hck.2
      have HAS := Lib.hid (qJ ⟨svc, mth, lt, ms⟩ (k := k) hlt)
      have hal := HAL.out k (by show k ≤ ms.length; omega)
      have HLK := Lib.hid (show (ku ⟨svc, mth, lt, ms⟩ k).length ≤ 170000000000 by omega)
      obtain ⟨y1, y2⟩ := HZ.out.2.2 ms[k] (List.getElem_mem hlt)
      have HBN := Lib.hid (show w.heap.size + 1 ≤ wr.heap.size from Nat.le_of_lt (Nat.lt_of_le_of_lt hisw.here.1 hisw.here.2))
      have hne : wr.heap.size ≠ w1.heap.size := Nat.ne_of_gt hisw.here.2
      have HNE := Lib.hid hne
      have hl1 := dC ms[k].1; have hl2 := dC ms[k].2
      have HV1 := Lib.hid (fun w => gC ms[k].1 w (by omega)); have HV2 := Lib.hid (fun w => gC ms[k].2 w (by omega))
      have HMB := Lib.hid (show tQ ms[k] = aZ ms[k].1 ++ aZ ms[k].2 from rfl)
      have HAS2 := Lib.hid (show ku ⟨svc, mth, lt, ms⟩ (k + 1) = ku ⟨svc, mth, lt, ms⟩ k ++ (aZ ms[k].1 ++ aZ ms[k].2) from HAS.out)
      clear hbw hisw hck hal hne HAS HMB
      have hs1 := dB (aZ ms[k].1); have hs2 := dB (aZ ms[k].2)
      have hn1 : ¬ 9223372036854775807 < (aZ ms[k].1).length + (aZ ms[k].2).length := by omega
      have HXS := Lib.hid (show (⟨(aZ ms[k].1).toArray⟩ ++ ⟨(aZ ms[k].2).toArray⟩ : ByteArray).size ≤ 10000000000 by rw [ByteArray.size_append, hs1, hs2]; omega)
      have HX := Lib.hid (show (⟨(aZ ms[k].1).toArray⟩ ++ ⟨(aZ ms[k].2).toArray⟩ : ByteArray).data.toList = aZ ms[k].1 ++ aZ ms[k].2 by simp [ByteArray.data_append])
      generalize hA : aZ ms[k].1 = A at *
      generalize hB : aZ ms[k].2 = B at *
      clear hA hB y1 y2 hl1 hl2
      generalize hky : ms[k].1 = ky at *
      generalize hvl : ms[k].2 = vl at *
      clear hky hvl
      have HKM0 := Lib.hid (Bk.new wr MT #[.string ky, .string vl])
      have HBB6 := Lib.hid (HBW.out.alloc HBW.out.size (.cells #[.string ky, .string vl] MT))
      have HIS6 := Lib.hid (HISW.out.below ((Below.refl wr.heap.size wr).alloc (Nat.le_refl _) (.cells #[.string ky, .string vl] MT)))
      by_cases hk0 : k = 0
      · subst hk0
        have hc4' : wr.cell? ⟨g, o, none⟩ = some (.string ky) := by simpa using hc4
        have hc5' : wr.cell? ⟨g, o + 1, none⟩ = some (.string vl) := by simpa using hc5
        clear hc4 hc5
        go_wp2_with fail
        refine dm (fun W' => W'.cell? ⟨wr.heap.size, 0, none⟩ = some (.string ky) ∧ W'.cell? ⟨wr.heap.size, 1, none⟩ = some (.string vl)) Fp (by kernel_rfl) (by kernel_rfl) ⟨HKM0.out.at_ 0 rfl, HKM0.out.at_ 1 rfl⟩ ?_
        ((refine aD J J _ (fun w' hI => by go_simp; rfl) (fun K hK => ?_); try go_simp; refine hK _ _ ?_; clear hK K))
        ((refine aD J J _ (fun w' hI => by go_simp; rfl) (fun K hK => ?_); try go_simp; refine hK _ _ ?_; clear hK K))
        refine bK J J J (fun K hK => ?_); go_simp
        refine (HV1.out _).mono ?_; rintro e y7 ⟨rfl, hb7⟩; try go_simp
        have HKM7 := Lib.hid (Bk.keep (w := (wr.alloc (.cells #[.string ky, .string vl] MT)).drew) HKM0.out hb7)
        have HBC7 := Lib.hid ((HBB6.out.drew).trans (hb7.mono HBB6.out.size)); have HIC7 := Lib.hid (IsB.below (w := (wr.alloc (.cells #[.string ky, .string vl] MT)).drew) HIS6.out hb7)
        refine hK _ _ ⟨⟨HKM7.out.at_ 0 rfl, HKM7.out.at_ 1 rfl⟩, ?_⟩; clear hK K hb7
        ((refine aD J J _ (fun w' hI => by go_simp; rfl) (fun K hK => ?_); try go_simp; refine hK _ _ ?_; clear hK K))
        ((refine aD J J _ (fun w' hI => by go_simp; rfl) (fun K hK => ?_); try go_simp; refine hK _ _ ?_; clear hK K))
        refine bK J J J (fun K hK => ?_); go_simp
        refine (HV2.out _).mono ?_; rintro e y8 ⟨rfl, hb8⟩; try go_simp
        have HKM8 := Lib.hid (HKM7.out.keep hb8)
        have HBC8 := Lib.hid ((HBC7.out).trans (hb8.mono HBC7.out.size)); have HIC8 := Lib.hid (HIC7.out.below hb8)
        refine hK _ _ ⟨⟨HKM8.out.at_ 0 rfl, HKM8.out.at_ 1 rfl⟩, ?_⟩; clear hK K hb8
        ((refine aD J J _ (fun w' hI => by go_simp; rfl) (fun K hK => ?_); try go_simp; refine hK _ _ ?_; clear hK K))
        refine bK J J J (fun K hK => ?_); go_simp
        refine (Hz (w.heap.size + 1) _ _ _ _ HIC8.out (by have := HXS.out; have := HLK.out; omega) (by have := HBN.out; have := HBC8.out.size; have := HKM8.out.here; omega)).mono ?_; rintro e y9 ⟨rfl, his9, hb9, hkp9⟩; try go_simp
        have HKM9 := Lib.hid (HKM8.out.kept hkp9 HNE.out (by decide))
        have HBC9 := Lib.hid (HBC8.out.trans (hb9.mono (Nat.le_succ _)))
        rw [HX.out, ← HAS2.out] at his9
        have HIC9 := Lib.hid his9; clear his9
        refine hK _ _ ⟨⟨HKM9.out.at_ 0 rfl, HKM9.out.at_ 1 rfl⟩, ?_⟩; clear hK K hb9 hkp9
        refine eD ?_
        go_wp2_with fail
        go_roundw
        case rel => exact ⟨0 + 1, hlt, by go_num, HBC9.out, HIC9.out⟩
        case measure => simp [intOf]; omega
      · skip
        go_wp2_with fail
        refine dm (fun W' => W'.cell? ⟨wr.heap.size, 0, none⟩ = some (.string ky) ∧ W'.cell? ⟨wr.heap.size, 1, none⟩ = some (.string vl)) Fp (by kernel_rfl) (by kernel_rfl) ⟨HKM0.out.at_ 0 rfl, HKM0.out.at_ 1 rfl⟩ ?_
        ((refine aD J J _ (fun w' hI => by go_simp; rfl) (fun K hK => ?_); try go_simp; refine hK _ _ ?_; clear hK K))
        ((refine aD J J _ (fun w' hI => by go_simp; rfl) (fun K hK => ?_); try go_simp; refine hK _ _ ?_; clear hK K))
        refine bK J J J (fun K hK => ?_); go_simp
        refine (HV1.out _).mono ?_; rintro e y7 ⟨rfl, hb7⟩; try go_simp
        have HKM7 := Lib.hid (Bk.keep (w := (wr.alloc (.cells #[.string ky, .string vl] MT)).drew) HKM0.out hb7)
        have HBC7 := Lib.hid ((HBB6.out.drew).trans (hb7.mono HBB6.out.size)); have HIC7 := Lib.hid (IsB.below (w := (wr.alloc (.cells #[.string ky, .string vl] MT)).drew) HIS6.out hb7)
        refine hK _ _ ⟨⟨HKM7.out.at_ 0 rfl, HKM7.out.at_ 1 rfl⟩, ?_⟩; clear hK K hb7
        ((refine aD J J _ (fun w' hI => by go_simp; rfl) (fun K hK => ?_); try go_simp; refine hK _ _ ?_; clear hK K))
        ((refine aD J J _ (fun w' hI => by go_simp; rfl) (fun K hK => ?_); try go_simp; refine hK _ _ ?_; clear hK K))
        refine bK J J J (fun K hK => ?_); go_simp
        refine (HV2.out _).mono ?_; rintro e y8 ⟨rfl, hb8⟩; try go_simp
        have HKM8 := Lib.hid (HKM7.out.keep hb8)
        have HBC8 := Lib.hid ((HBC7.out).trans (hb8.mono HBC7.out.size)); have HIC8 := Lib.hid (HIC7.out.below hb8)
        refine hK _ _ ⟨⟨HKM8.out.at_ 0 rfl, HKM8.out.at_ 1 rfl⟩, ?_⟩; clear hK K hb8
        ((refine aD J J _ (fun w' hI => by go_simp; rfl) (fun K hK => ?_); try go_simp; refine hK _ _ ?_; clear hK K))
        refine bK J J J (fun K hK => ?_); go_simp
        refine (Hz (w.heap.size + 1) _ _ _ _ HIC8.out (by have := HXS.out; have := HLK.out; omega) (by have := HBN.out; have := HBC8.out.size; have := HKM8.out.here; omega)).mono ?_; rintro e y9 ⟨rfl, his9, hb9, hkp9⟩; try go_simp
        have HKM9 := Lib.hid (HKM8.out.kept hkp9 HNE.out (by decide))
        have HBC9 := Lib.hid (HBC8.out.trans (hb9.mono (Nat.le_succ _)))
        rw [HX.out, ← HAS2.out] at his9
        have HIC9 := Lib.hid his9; clear his9
        refine hK _ _ ⟨⟨HKM9.out.at_ 0 rfl, HKM9.out.at_ 1 rfl⟩, ?_⟩; clear hK K hb9 hkp9
        refine eD ?_
        go_wp2_with fail
        go_roundw
        case rel => exact ⟨k + 1, hlt, by go_num, HBC9.out, HIC9.out⟩
        case measure => simp [intOf]; omega
    · obtain rfl : k = ms.length := by omega
      have HL := Lib.hid (tV ⟨svc, mth, lt, ms⟩)
      have HISW2 := Lib.hid (show IsB (w.heap.size + 1) w1.heap.size (Lib.byteCells (ko ⟨svc, mth, lt, ms⟩)) wr by rw [← HL.out]; exact HISW.out)
      have HBN := Lib.hid (show w.heap.size + 1 ≤ wr.heap.size from Nat.le_of_lt (Nat.lt_of_le_of_lt hisw.here.1 hisw.here.2))
      clear hbw hisw
      go_wp2_with fail
      refine (xD (w.heap.size + 1) _ _ _ HISW2.out HBN.out).mono ?_; rintro e z1 ⟨rfl, _, hbz, _⟩
      go_wp2_with fail
      go_ret2
      exact ⟨rfl, HBW.out.trans (hbz.mono (Nat.le_succ _))⟩
set_option maxHeartbeats 4000000 in
set_option maxRecDepth 100000 in
theorem A5 (svc mth : ByteArray) (late : Int) (a : Option Addr) (cap : Nat) (w : World) (hg : MLen w) (hz : lg ⟨svc, mth, late, []⟩) (he : bQ ⟨svc, mth, late, []⟩ = 0) :
    Calls Tryz.prog 20 #[.agg #[.string svc, .string mth, .int .i64 late, .slice a 0 cap]] w fun e w' => e = .returned (.tuple #[.string ⟨(ko ⟨svc, mth, late, []⟩).toArray⟩, .int .i64 0]) ∧ Below w.heap.size w w' := by
  obtain ⟨hl1, hl2, hl3⟩ := tU he
  have hl1 : 0 ≤ late := hl1
  have hl2 : late ≤ 1099511627776 := hl2
  obtain ⟨lt, rfl⟩ : ∃ n : Nat, late = n := ⟨late.toNat, by omega⟩
  have HE := Lib.hid (fun w hg => A4 he (oP svc mth lt a cap w hg hz))
  have hp1 := dC svc; have hp2 := dC mth; have hp3 := cP lt; have hp4 := cP 0
  have z1 : svc.size < 4294967281 := hz.1
  have z2 : mth.size < 4294967281 := hz.2.1
  have HZ := Lib.hid hz
  have HS1 := Lib.hid (fun w => gC svc w (by omega)); have HS2 := Lib.hid (fun w => gC mth w (by omega))
  have HP1 := Lib.hid (fun w => iq lt w (by omega)); have HP2 := Lib.hid (fun w => iq 0 w (by omega))
  have HB0 := Lib.hid (show Below w.heap.size w (w.alloc (.cells #[.string svc, .string mth, .int .i64 lt, .slice a 0 cap] HT)) from (Below.refl _ _).alloc (Nat.le_refl _) _)
  have HK0 := Lib.hid (Bk.new w HT #[.string svc, .string mth, .int .i64 lt, .slice a 0 cap])
  have HG0 := Lib.hid (hg.below HB0.out)
  have hwl : IntKind.u64.wrap (lt : Int) = lt := by rw [IntKind.wrap_u64]; omega
  clear hg hz he hl1 hl2 z1 z2
  go_enter Tryz.func20, Tryz.ntmps20
  go_wp2_with fail
  refine (HE.out _ HG0.out).mono ?_; rintro e w1 ⟨rfl, hb1⟩
  have HB1 := Lib.hid (HB0.out.trans (hb1.mono HB0.out.size)); have HK1 := Lib.hid (HK0.out.keep hb1); clear hb1
  go_wp2_with fail
  have HK2 := Lib.hid (HK1.out.more (.cells #[.pointer none, .slice none 0 0] 109))
  have k0 : (w1.alloc (.cells #[.pointer none, .slice none 0 0] 109)).cell? ⟨w.heap.size, 0, none⟩ = some (.string svc) := HK2.out.at_ 0 rfl
  have k1 : (w1.alloc (.cells #[.pointer none, .slice none 0 0] 109)).cell? ⟨w.heap.size, 1, none⟩ = some (.string mth) := HK2.out.at_ 1 rfl
  have k2 : (w1.alloc (.cells #[.pointer none, .slice none 0 0] 109)).cell? ⟨w.heap.size, 2, none⟩ = some (.int .i64 lt) := HK2.out.at_ 2 rfl
  have k3 : (w1.alloc (.cells #[.pointer none, .slice none 0 0] 109)).cell? ⟨w.heap.size, 3, none⟩ = some (.slice a 0 cap) := HK2.out.at_ 3 rfl
  have HN0 := Lib.hid (show w.heap.size + 1 ≤ (w1.alloc (.cells #[.pointer none, .slice none 0 0] 109)).heap.size by have := HK1.out.here; simp; omega)
  have HBB0 := Lib.hid (HB1.out.alloc HB1.out.size (.cells #[.pointer none, .slice none 0 0] 109))
  have HIS0 := Lib.hid (IsB.fresh w1 (w.heap.size + 1) HK1.out.here)
  have HBL := Lib.hid (show w.heap.size + 1 ≤ w1.heap.size from HK1.out.here)
  have HAL := Lib.hid (oQ ⟨svc, mth, lt, []⟩ HZ.out)
  have HA0 := Lib.hid (show ku ⟨svc, mth, lt, []⟩ 0 = aZ svc ++ aZ mth ++ aM lt ++ aM 0 by unfold ku; simp)
  have hs1 := dB (aZ svc); have hs2 := dB (aZ mth); have hs3 := dB (aM lt); have hs4 := dB (aM 0)
  have z1 : svc.size < 4294967281 := HZ.out.1
  have z2 : mth.size < 4294967281 := HZ.out.2.1
  have hn1 : ¬ 9223372036854775807 < (aZ svc).length + (aZ mth).length := by omega
  have hn2 : ¬ 9223372036854775807 < (aZ svc).length + (aZ mth).length + (aM lt).length := by omega
  have hn3 : ¬ 9223372036854775807 < (aZ svc).length + (aZ mth).length + (aM lt).length + (aM 0).length := by omega
  have HX := Lib.hid (show (⟨(aZ svc).toArray⟩ ++ ⟨(aZ mth).toArray⟩ ++ ⟨(aM lt).toArray⟩ ++ ⟨(aM 0).toArray⟩ : ByteArray).data.toList = ku ⟨svc, mth, lt, []⟩ 0 by rw [HA0.out]; simp [ByteArray.data_append])
  have HXS := Lib.hid (show (⟨(aZ svc).toArray⟩ ++ ⟨(aZ mth).toArray⟩ ++ ⟨(aM lt).toArray⟩ ++ ⟨(aM 0).toArray⟩ : ByteArray).size ≤ 10000000000 by rw [ByteArray.size_append, ByteArray.size_append, ByteArray.size_append, hs1, hs2, hs3, hs4]; omega)
  clear z1 z2
  generalize hAA : aZ svc = A at *
  generalize hBB : aZ mth = B at *
  generalize hCC : aM lt = C at *
  generalize hDD : aM 0 = D at *
  clear hAA hBB hCC hDD
  refine dm (InvB (w.heap.size + 1) (w1.alloc (.cells #[.pointer none, .slice none 0 0] 109))) Fp (by kernel_rfl) (by kernel_rfl) (InvB.refl _ _).drew ?_
  ((refine aD J J _ (fun w' hI => by unfold InvB at hI; go_simp; rfl) (fun K hK => ?_); try go_simp; refine hK _ _ ?_; clear hK K))
  ((refine aD J J _ (fun w' hI => by unfold InvB at hI; go_simp; rfl) (fun K hK => ?_); try go_simp; refine hK _ _ ?_; clear hK K))
  refine bK J J J (fun K hK => ?_); go_simp
  refine (HS1.out _).mono ?_; rintro e x1 ⟨rfl, hb1⟩; try go_simp
  have HI1 := Lib.hid ((InvB.refl _ _).drew.below hb1 (show w.heap.size + 1 ≤ _ from HN0.out)); have HS1 := Lib.hid (Nat.le_trans HN0.out hb1.size)
  have HBB1 := Lib.hid (HBB0.out.drew.trans (hb1.mono (show w.heap.size ≤ _ from Nat.le_trans (Nat.le_succ _) HN0.out))); have HIS1 := Lib.hid (IsB.below (w := (w1.alloc (.cells #[.pointer none, .slice none 0 0] 109)).drew) HIS0.out hb1)
  refine hK _ _ ⟨HI1.out, ?_⟩; clear hK K hb1
  ((refine aD J J _ (fun w' hI => by unfold InvB at hI; go_simp; rfl) (fun K hK => ?_); try go_simp; refine hK _ _ ?_; clear hK K))
  ((refine aD J J _ (fun w' hI => by unfold InvB at hI; go_simp; rfl) (fun K hK => ?_); try go_simp; refine hK _ _ ?_; clear hK K))
  refine bK J J J (fun K hK => ?_); go_simp
  refine (HS2.out _).mono ?_; rintro e x2 ⟨rfl, hb2⟩; try go_simp
  have HI2 := Lib.hid (HI1.out.below hb2 HS1.out); have HS2 := Lib.hid (Nat.le_trans HS1.out hb2.size)
  have HBB2 := Lib.hid (HBB1.out.trans (hb2.mono HBB1.out.size)); have HIS2 := Lib.hid (HIS1.out.below hb2)
  refine hK _ _ ⟨HI2.out, ?_⟩; clear hK K hb2
  ((refine aD J J _ (fun w' hI => by unfold InvB at hI; go_simp; rfl) (fun K hK => ?_); try go_simp; refine hK _ _ ?_; clear hK K))
  ((refine aD J J _ (fun w' hI => by unfold InvB at hI; go_simp; rfl) (fun K hK => ?_); try go_simp; refine hK _ _ ?_; clear hK K))
  ((refine aD J J _ (fun w' hI => by unfold InvB at hI; go_simp; rfl) (fun K hK => ?_); try go_simp; refine hK _ _ ?_; clear hK K))
  ((refine aD J J _ (fun w' hI => by unfold InvB at hI; go_simp; rfl) (fun K hK => ?_); try go_simp; refine hK _ _ ?_; clear hK K))
  refine bK J J J (fun K hK => ?_); go_simp
  refine (HP1.out _).mono ?_; rintro e x3 ⟨rfl, hb3⟩; try go_simp
  have HI3 := Lib.hid (HI2.out.below hb3 HS2.out); have HS3 := Lib.hid (Nat.le_trans HS2.out hb3.size)
  have HBB3 := Lib.hid (HBB2.out.trans (hb3.mono HBB2.out.size)); have HIS3 := Lib.hid (HIS2.out.below hb3)
  refine hK _ _ ⟨HI3.out, ?_⟩; clear hK K hb3
  ((refine aD J J _ (fun w' hI => by unfold InvB at hI; go_simp; rfl) (fun K hK => ?_); try go_simp; refine hK _ _ ?_; clear hK K))
  ((refine aD J J _ (fun w' hI => by unfold InvB at hI; go_simp; rfl) (fun K hK => ?_); try go_simp; refine hK _ _ ?_; clear hK K))
  ((refine aD J J _ (fun w' hI => by unfold InvB at hI; go_simp; rfl) (fun K hK => ?_); try go_simp; refine hK _ _ ?_; clear hK K))
  ((refine aD J J _ (fun w' hI => by unfold InvB at hI; go_simp; rfl) (fun K hK => ?_); try go_simp; refine hK _ _ ?_; clear hK K))
  ((refine aD J J _ (fun w' hI => by unfold InvB at hI; go_simp; rfl) (fun K hK => ?_); try go_simp; refine hK _ _ ?_; clear hK K))
  refine bK J J J (fun K hK => ?_); go_simp
  refine (HP2.out _).mono ?_; rintro e x4 ⟨rfl, hb4⟩; try go_simp
  have HI4 := Lib.hid (HI3.out.below hb4 HS3.out); have HS4 := Lib.hid (Nat.le_trans HS3.out hb4.size)
  have HBB4 := Lib.hid (HBB3.out.trans (hb4.mono HBB3.out.size)); have HIS4 := Lib.hid (HIS3.out.below hb4)
  refine hK _ _ ⟨HI4.out, ?_⟩; clear hK K hb4
  ((refine aD J J _ (fun w' hI => by unfold InvB at hI; go_simp; rfl) (fun K hK => ?_); try go_simp; refine hK _ _ ?_; clear hK K))
  refine bK J J J (fun K hK => ?_); go_simp
  refine (Hz (w.heap.size + 1) _ [] _ _ HIS4.out (by have := HXS.out; simp only [List.length_nil]; omega) HS4.out).mono ?_; rintro e x5 ⟨rfl, his5, hb5, _⟩; try go_simp
  have HI5 := Lib.hid (HI4.out.below hb5 (Nat.le_refl _)); have HS5 := Lib.hid (Nat.le_trans HS4.out hb5.size)
  have HBB5 := Lib.hid (HBB4.out.trans (hb5.mono (Nat.le_succ _)))
  rw [List.nil_append, HX.out] at his5
  have HIS5 := Lib.hid his5; clear his5
  refine hK _ _ ⟨HI5.out, ?_⟩; clear hK K hb5
  refine eD ?_
  have k3' : x5.cell? ⟨w.heap.size, 3, none⟩ = some (.slice a 0 cap) := (HI5.out _ _ (Nat.lt_succ_self _)).trans k3
  clear k0 k1 k2 k3 hs1 hs2 hs3 hs4 hn1 hn2 hn3 hp1 hp2 hp3 hp4 hwl HS1 HS2 HP1 HP2 HIS0 HIS1 HIS2 HIS3 HIS4 HI1 HI2 HI3 HI4 HI5 HX HXS
  go_wp2_with fail
  refine wp_loop_rounds 1 ?_
  rw [rounds_succ]
  have HL := Lib.hid (tV ⟨svc, mth, lt, []⟩)
  have HISW2 := Lib.hid (show IsB (w.heap.size + 1) w1.heap.size (Lib.byteCells (ko ⟨svc, mth, lt, []⟩)) x5 by rw [← HL.out]; exact HIS5.out)
  go_wp2_with fail
  refine (xD (w.heap.size + 1) _ _ _ HISW2.out HS5.out).mono ?_; rintro e z1 ⟨rfl, _, hbz, _⟩
  go_wp2_with fail
  go_ret2
  exact ⟨rfl, HBB5.out.trans (hbz.mono (Nat.le_succ _))⟩
theorem A6 (h : jU) (v : Value) (w : World) (hg : MLen w) (hm : MsIn w v h.metas) (hz : lg h) (he : bQ h ≠ 0) :
    Calls Tryz.prog 20 #[.agg (eJ h v)] w fun e w' => e = .returned (.tuple #[.string ⟨#[]⟩, .int .i64 (bQ h)]) ∧ Below w.heap.size w w' := by
  have HB0 := Lib.hid (show Below w.heap.size w (w.alloc (.cells (eJ h v) HT)) from (Below.refl _ _).alloc (Nat.le_refl _) _)
  have HC := Lib.hid (wd h v (w.alloc (.cells (eJ h v) HT)) (hg.below HB0.out) (hm.below HB0.out) hz)
  obtain ⟨svc, mth, late, ms⟩ := h
  generalize bQ ⟨svc, mth, late, ms⟩ = E at *
  obtain ⟨q1, q2⟩ := cj he
  clear he hm hg
  go_enter Tryz.func20, Tryz.ntmps20
  go_wp2_with fail
  refine (HC.out).mono ?_; rintro e w1 ⟨rfl, hb1⟩
  go_wp2_with fail
  go_ret2
  exact ⟨rfl, HB0.out.trans (hb1.mono HB0.out.size)⟩
theorem tW (h : jU) (v : Value) (w : World) (hg : MLen w) (hm : MsIn w v h.metas) (hz : lg h) :
    Calls Tryz.prog 20 #[.agg (eJ h v)] w fun e w' => e = .returned (.tuple #[.string ⟨(jL h).bytes.toArray⟩, .int .i64 (jL h).err]) ∧ Below w.heap.size w w' := by
  by_cases he : bQ h = 0
  · rw [oR he]
    obtain ⟨svc, mth, late, ms⟩ := h
    obtain ⟨a, cap, rfl, hcs⟩ := hm
    cases ms with
    | nil => exact A5 svc mth late a cap w hg hz he
    | cons m r =>
      obtain ⟨g, o, rfl, hgl, hc⟩ := hcs (by simp)
      exact yW svc mth late (m :: r) g o cap w hg hgl hc hz he
  · rw [yV he]
    exact A6 h v w hg hm hz he
end Go.Proofs.YtklcfjlmlbnkaaaGreatDoor
namespace Go.Proofs.YtklcfjlmlbnkaaaGreatDoor
open Go.RowKit
end Go.Proofs.YtklcfjlmlbnkaaaGreatDoor
