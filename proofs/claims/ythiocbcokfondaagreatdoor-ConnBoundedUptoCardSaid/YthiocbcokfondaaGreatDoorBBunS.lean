/- Texts of this claim merged into one: BUtf, BStat, BFrLaw. -/
import Derived.Test.YthiocbcokfondaaGreatDoorBBunU
import Derived.Test.YthiocbcokfondaaGreatDoorBShelf
import Derived.WalkKit
import Derived.WalkSpells
import Derived.WalkLawsBesides
import Derived.Lib.Hide
import Derived.Lib.OthersKept
import Derived.WalkSmall
import Derived.Below
import Derived.Test.YthiocbcokfondaaGreatDoorBBunV
import Derived.Test.YthiocbcokfondaaGreatDoorBBunG
import GoSem.Op.String
namespace Go.Proofs.YthiocbcokfondaaGreatDoor
open Go.RowKit
theorem ep (s : ByteArray) {i k : Nat} (h : i + k < s.size) : (s[i + k].toNat : Nat) = dq (s.data.toList.drop i) k := by
 rw [← wd]
 congr 1
 show s.data[i + k] = s.data[i + k]!
 rw [getElem!_pos]
theorem aN {a b : Bool} (h : a = b) : Ending.returned (.bool a) = .returned (.bool b) := by rw [h]
theorem aY {k : IntKind} {a b : Int} (h : a = b) : Ending.returned (.int k a) = .returned (.int k b) := by rw [h]
theorem aJ {a c : Int} (h : a ≠ c) : (a == c) = false ∧ (a != c) = true := by
 have : (a == c) = false := by simpa using h
 exact ⟨this, by rw [bne, this]; rfl⟩
theorem jx {a c : Int} (h : a = c) : (a == c) = true ∧ (a != c) = false := by
 have : (a == c) = true := by simpa using h
 exact ⟨this, by rw [bne, this]; rfl⟩
theorem uy (s : ByteArray) (i : Nat) (c : Int) (w : World) (hi : i ≤ s.size) (_ : s.size ≤ 4611686018427387900) :
 Calls Tryz.prog 210 #[.string s, .int .i64 i, .int .i32 c] w fun e w' => e = .returned (.bool (decide (c = 65533) && !ot (s.data.toList.drop i))) ∧ w = w' := by
 have he : (s.extract i s.size).data.toList = s.data.toList.drop i := by
  rw [ByteArray.data_extract, Array.toList_extract, List.extract_eq_take_drop, List.take_of_length_le]
  rw [List.length_drop, Array.length_toList]; exact Nat.le_refl _
 have HP := Lib.hid (show ∀ w, Calls Tryz.prog 215 #[.string (s.extract i s.size), .string ⟨#[239, 191, 189]⟩] w fun e w' => e = .returned (.bool (ot (s.data.toList.drop i))) ∧ w = w' from
  fun w => (Tryz.strings_HasPrefix _ _ w).mono fun e w' ⟨h1, h2⟩ => ⟨by rw [h1, he]; rfl, h2.symm⟩)
 clear he
 by_cases hc : c = 65533
 · subst hc
   go_enter Tryz.func210, Tryz.ntmps210
   go_wp2_with fail
   refine (HP.out _).mono ?_; rintro e w1 ⟨rfl, rfl⟩
   go_wp2_with fail
   go_ret
   exact ⟨aN (by simp), rfl⟩
 · obtain ⟨hq, _⟩ := aJ hc
   have HR := Lib.hid (show (decide (c = 65533) && !ot (s.data.toList.drop i)) = false by rw [decide_eq_false hc]; rfl)
   clear hc
   go_enter Tryz.func210, Tryz.ntmps210
   go_wp2_with fail
   go_ret
   exact ⟨aN HR.out.symm, rfl⟩
theorem sI (s : ByteArray) (w : World) (hs : s.size ≤ 4611686018427387900) :
 Calls Tryz.prog 191 #[.string s] w fun e w' => e = .returned (.int .i64 (kx s)) ∧ Below w.heap.size w w' := by
 have HS := Lib.hid hs; clear hs
 go_enter Tryz.func191, Tryz.ntmps191
 go_wp2
 go_loopw [] (fun wr => ∃ pos : Nat, pos ≤ s.size ∧ wr.heap[w.heap.size]? = some (.stringIter s pos) ∧ Below w.heap.size w wr ∧ kx s = gN s pos) (fun wr => s.size - wr.iterPos w.heap.size)
 case atStart => exact ⟨0, Nat.zero_le _, World.iter_heap w s 0, (Below.refl _ w).alloc (Nat.le_refl _) _, rfl⟩
 case round =>
  obtain ⟨pos, hpos, hit, hbw, hx⟩ := hrel
  have HX := Lib.hid hx; have HB := Lib.hid hbw; clear hx hbw
  by_cases hp : pos < s.size
  · have hnx : ∀ ty, (Instr.next (.pointer (some ⟨w.heap.size, 0, none⟩)) true ty).run Tryz.prog wr = _ := fun ty => Lib.run_next_any_at wr w.heap.size s pos ty hit hp
    have hdz := Ab (s.data.toList.drop pos)
    rw [← kw] at hdz
    have HIT := Lib.hid (Lib.iterAt_heap wr w.heap.size s pos (pos + (Utf8.decode s pos).2) hit)
    have HB2 := Lib.hid (Lib.below_iterAt HB.out (k := w.heap.size) (Nat.le_refl _) s (pos + (Utf8.decode s pos).2))
    have HO := Lib.hid hit; clear hit
    have hzl := wg (s.data.toList.drop pos) (by rw [← jQ]; exact hp)
    have hlen : (s.data.toList.drop pos).length = s.size - pos := by rw [List.length_drop, Array.length_toList]; rfl
    have HW := Lib.hid (fun w c => uy s pos c w hpos HS.out)
    have HST := Lib.hid (mU s pos hp)
    have HWR := Lib.hid (ml s pos hp)
    generalize Utf8.decode s pos = D at *
    obtain ⟨dc, dn⟩ := D
    rcases hdz with ⟨hz, hd, hf⟩ | ⟨hz, hd, hf⟩
    · obtain ⟨rfl, rfl⟩ := Prod.mk.inj hd
      have HR := Lib.hid (show kx s = pos by rw [HX.out, HWR.out hz])
      have HC := Lib.hid (fun w => (HW.out w 65533).mono fun e w' h => (show e = .returned (.bool true) ∧ w = w' by rw [hf] at h; exact h))
      clear hz hf hzl hlen hd
      go_wp2_with fail
      refine (HC.out _).mono ?_; rintro e w1 ⟨rfl, rfl⟩
      go_wp2_with fail
      go_ret
      exact ⟨aY HR.out.symm, HB2.out⟩
    · have HR := Lib.hid (show kx s = gN s (pos + dn) by rw [HX.out, HST.out hz]; rw [← hd])
      have hw0 : (decide ((dc : Int) = 65533) && !ot (s.data.toList.drop pos)) = false := by
       rcases hf with h | h
       · rw [decide_eq_false (show ¬ (dc : Int) = 65533 by have : dc ≠ 65533 := h; omega)]; rfl
       · rw [h]; simp
      have HC := Lib.hid (fun w => (HW.out w dc).mono fun e w' h => (show e = .returned (.bool false) ∧ w = w' by rw [hw0] at h; exact h))
      have hz1 : pos + dn ≤ s.size := by have : dn = _ := hd; omega
      have hz2 : 0 < dn := by have : dn = _ := hd; omega
      clear hz hf hw0 hzl hlen hd
      go_wp2_with fail
      refine (HC.out _).mono ?_; rintro e w1 ⟨rfl, rfl⟩
      go_wp2_with fail
      go_roundw
      case rel => exact ⟨pos + dn, hz1, HIT.out, HB2.out, HR.out⟩
      case measure => rw [iterPos_of HIT.out, iterPos_of HO.out]; show s.size - (pos + dn) < s.size - pos; omega
  · have hnx : ∀ ty, (Instr.next (.pointer (some ⟨w.heap.size, 0, none⟩)) true ty).run Tryz.prog wr = _ := fun ty => Lib.run_next_end_at wr w.heap.size s pos ty hit hp
    have HR := Lib.hid (show kx s = -1 by rw [HX.out, oI s pos (by omega)])
    go_wp2_with fail
    go_ret
    exact ⟨aY HR.out.symm, HB.out⟩
theorem kW (s : ByteArray) (w : World) (hs : s.size ≤ 4611686018427387900) :
 Calls Tryz.prog 161 #[.string s] w fun e w' => e = .returned (.bool (fT s)) ∧ Below w.heap.size w w' := by
 have HC := Lib.hid (fun w => sI s w hs)
 have HV := Lib.hid (show fT s = decide (kx s < 0) from rfl)
 generalize kx s = B at *
 go_enter Tryz.func161, Tryz.ntmps161
 go_wp2_with fail
 refine (HC.out _).mono ?_; rintro e w1 ⟨rfl, hb⟩
 go_wp2_with fail
 go_ret
 exact ⟨aN HV.out.symm, hb⟩
end Go.Proofs.YthiocbcokfondaaGreatDoor
namespace Go.Proofs.YthiocbcokfondaaGreatDoor
open Go.RowKit
theorem mm {W w1 : World} (hb : Below W.heap.size W w1) : (∀ b o, b < W.heap.size → w1.cell? ⟨b, o, none⟩ = W.cell? ⟨b, o, none⟩) ∧ (∀ b o, b < W.heap.size → w1.frozen? ⟨b, o, none⟩ = W.frozen? ⟨b, o, none⟩) :=
 ⟨fun b o h => hb.cell (p := ⟨b, o, none⟩) h, fun b o h => hb.frozen (p := ⟨b, o, none⟩) h⟩
def bj (c : Int) (s : ByteArray) : Int := if c < 0 ∨ 13 < c then 1 else if fT s = false then 7 else if 4096 < s.size then 3 else if c = 0 ∧ s.size ≠ 0 then 1 else 0
def yJ (l : List UInt8) (s : ByteArray) : ByteArray := ⟨l.toArray⟩ ++ s
def kj (c : Int) (s : ByteArray) : ByteArray := if bj c s = 0 then yJ (bB c.toNat) s else ⟨#[]⟩
structure CP where
 code : Int
 text : ByteArray
 err : Int
def f6 (s : ByteArray) (u n : Nat) : CP :=
 if n ≠ (bB u).length then ⟨0, ⟨#[]⟩, 5⟩ else if 13 < u then ⟨0, ⟨#[]⟩, 6⟩
 else if bj u (s.extract n s.size) = 0 then ⟨u, s.extract n s.size, 0⟩ else ⟨0, ⟨#[]⟩, bj u (s.extract n s.size)⟩
def bA (s : ByteArray) : CP := if (cR s).2.2 = 0 then f6 s (cR s).1 (cR s).2.1 else ⟨0, ⟨#[]⟩, (cR s).2.2⟩
theorem lQ {s : ByteArray} : (s.size = 0) ↔ s.toList = [] := by
 rw [ByteArray.toList_eq, ← List.length_eq_zero_iff, Array.length_toList]; exact Iff.rfl
theorem kX {s : ByteArray} (h : s.size = 0) : s.toList.isEmpty = true ∧ s.toList = [] := ⟨by rw [lQ.1 h]; rfl, lQ.1 h⟩
theorem jV {s : ByteArray} (h : s.size ≠ 0) : s.toList.isEmpty = false ∧ ¬ s.toList = [] := by
 have : ¬ s.toList = [] := fun e => h (lQ.2 e)
 exact ⟨by cases hh : s.toList with | nil => exact absurd hh this | cons => rfl, this⟩
set_option maxHeartbeats 1000000 in
theorem fw (c : Int) (s : ByteArray) (w : World) (hs : s.size ≤ 4611686018427387900) :
 Calls Tryz.prog 106 #[.agg #[.int .i64 c, .string s]] w fun e w' => e = .returned (.int .i64 (bj c s)) ∧ Below w.heap.size w w' := by
 by_cases h1 : c < 0
 · have HR := Lib.hid (show bj c s = 1 by unfold bj; rw [if_pos (.inl h1)])
   go_enter Tryz.func106, Tryz.ntmps106
   go_wp2_with fail
   go_ret
   exact ⟨aY (by rw [HR.out]), (Below.refl _ _).alloc (Nat.le_refl _) _⟩
 by_cases h2 : 13 < c
 · have HR := Lib.hid (show bj c s = 1 by unfold bj; rw [if_pos (.inr h2)])
   go_enter Tryz.func106, Tryz.ntmps106
   go_wp2_with fail
   go_ret
   exact ⟨aY (by rw [HR.out]), (Below.refl _ _).alloc (Nat.le_refl _) _⟩
 have hV := fun w => kW s w hs
 cases hv : fT s with
 | false =>
  rw [hv] at hV
  have HV := Lib.hid hV
  have HR := Lib.hid (show bj c s = 7 by unfold bj; rw [if_neg (by omega), if_pos hv])
  clear hv hV
  go_enter Tryz.func106, Tryz.ntmps106
  go_wp2_with fail
  refine (HV.out _).mono ?_; rintro e w1 ⟨rfl, hb⟩
  obtain ⟨hcb, hfb⟩ := mm hb
  go_wp2_with fail
  go_ret
  exact ⟨aY (by rw [HR.out]), ((Below.refl _ _).alloc (Nat.le_refl _) _).trans (hb.mono (by simp))⟩
 | true =>
  rw [hv] at hV
  have HV := Lib.hid hV
  by_cases h3 : 4096 < s.size
  · have HR := Lib.hid (show bj c s = 3 by unfold bj; rw [if_neg (by omega), if_neg (by rw [hv]; simp), if_pos h3])
    clear hv hV
    go_enter Tryz.func106, Tryz.ntmps106
    go_wp2_with fail
    refine (HV.out _).mono ?_; rintro e w1 ⟨rfl, hb⟩
    obtain ⟨hcb, hfb⟩ := mm hb
    go_wp2_with fail
    go_ret
    exact ⟨aY (by rw [HR.out]), ((Below.refl _ _).alloc (Nat.le_refl _) _).trans (hb.mono (by simp))⟩
  · by_cases h4 : c = 0
    · subst h4
      by_cases h5 : s.size = 0
      · obtain ⟨e1, e2⟩ := kX h5
        have HR := Lib.hid (show bj 0 s = 0 by unfold bj; rw [if_neg (by omega), if_neg (by rw [hv]; simp), if_neg h3, if_neg (by omega)])
        clear hv hV h5
        go_enter Tryz.func106, Tryz.ntmps106
        go_wp2_with fail
        refine (HV.out _).mono ?_; rintro e w1 ⟨rfl, hb⟩
        obtain ⟨hcb, hfb⟩ := mm hb
        go_wp2_with fail
        go_ret
        exact ⟨aY (by rw [HR.out]), ((Below.refl _ _).alloc (Nat.le_refl _) _).trans (hb.mono (by simp))⟩
      · obtain ⟨e1, e2⟩ := jV h5
        have HR := Lib.hid (show bj 0 s = 1 by unfold bj; rw [if_neg (by omega), if_neg (by rw [hv]; simp), if_neg h3, if_pos ⟨rfl, h5⟩])
        clear hv hV h5
        go_enter Tryz.func106, Tryz.ntmps106
        go_wp2_with fail
        refine (HV.out _).mono ?_; rintro e w1 ⟨rfl, hb⟩
        obtain ⟨hcb, hfb⟩ := mm hb
        go_wp2_with fail
        go_ret
        exact ⟨aY (by rw [HR.out]), ((Below.refl _ _).alloc (Nat.le_refl _) _).trans (hb.mono (by simp))⟩
    · have hq := (aJ h4).1
      have HR := Lib.hid (show bj c s = 0 by unfold bj; rw [if_neg (by omega), if_neg (by rw [hv]; simp), if_neg h3, if_neg (by omega)])
      clear hv hV h4
      go_enter Tryz.func106, Tryz.ntmps106
      go_wp2_with fail
      refine (HV.out _).mono ?_; rintro e w1 ⟨rfl, hb⟩
      obtain ⟨hcb, hfb⟩ := mm hb
      go_wp2_with fail
      go_ret
      exact ⟨aY (by rw [HR.out]), ((Below.refl _ _).alloc (Nat.le_refl _) _).trans (hb.mono (by simp))⟩
theorem pK (f : FuncId) (c d : Int) (s : ByteArray) (h : bj c s = d) (hc : ∀ w, Calls Tryz.prog f #[.agg #[.int .i64 c, .string s]] w fun e w' => e = .returned (.int .i64 (bj c s)) ∧ Below w.heap.size w w') (w : World) :
 Calls Tryz.prog f #[.agg #[.int .i64 c, .string s]] w fun e w' => e = .returned (.int .i64 d) ∧ Below w.heap.size w w' := by subst h; exact hc w
theorem qJ (c : Int) (s : ByteArray) : bj c s = 0 ∨ bj c s = 1 ∨ bj c s = 7 ∨ bj c s = 3 := by unfold bj; (repeat' split) <;> simp
theorem uz {c : Int} {s : ByteArray} (h : bj c s = 0) : 0 ≤ c ∧ c ≤ 13 ∧ fT s = true ∧ s.size ≤ 4096 ∧ (c = 0 → s.size = 0) := by
 unfold bj at h
 split at h
 · cases h
 · split at h
   · cases h
   · rename_i hv
     split at h
     · cases h
     · split at h
       · cases h
       · exact ⟨by omega, by omega, by simpa using hv, by omega, by omega⟩
set_option maxRecDepth 100000 in
set_option maxHeartbeats 4000000 in
theorem wz (c : Int) (s : ByteArray) (w : World) (hs : s.size ≤ 4611686018427387900) :
 Calls Tryz.prog 104 #[.agg #[.int .i64 c, .string s]] w fun e w' => e = .returned (.string (kj c s)) ∧ Below w.heap.size w w' := by
 by_cases h : bj c s = 0
 · have HC := Lib.hid (pK _ c 0 s h fun w => fw c s w hs)
   have HR := Lib.hid (show kj c s = yJ (bB c.toNat) s by unfold kj; rw [if_pos h])
   obtain ⟨h1, h2, _, h4, _⟩ := uz h
   clear h
   obtain ⟨k, rfl⟩ : ∃ k : Nat, c = k := ⟨c.toNat, by omega⟩
   have hput := cd k
   have hwk : IntKind.u64.wrap (k : Int) = k := by rw [IntKind.wrap_u64]; omega
   have hsz : (⟨(bB k).toArray⟩ : ByteArray).size = (bB k).length := by show (bB k).toArray.size = _; simp
   have hno : ¬ 9223372036854775807 < (bB k).length + s.size := by omega
   have HP := Lib.hid (fun w => jR k w (by omega))
   go_enter Tryz.func104, Tryz.ntmps104
   go_wp2_with fail
   refine (HC.out _).mono ?_; rintro e w1 ⟨rfl, hb⟩
   obtain ⟨hcb, hfb⟩ := mm hb
   go_wp2_with fail
   refine ca (InvB (w.heap.size + 1) _) Db (by kernel_rfl) (by kernel_rfl) (InvB.refl _ _) ?_
   iterate 3 (first | (refine kU rfl (fun K hK => ?_); try go_simp; refine hK _ _ ?_; clear hK K) | (refine aE J J _ (fun w' hI => by unfold InvB at hI; go_simp; rfl) (fun K hK => ?_); try go_simp; refine hK _ _ ?_; clear hK K) | (refine aE J J _ (fun w' hI => by go_simp; rfl) (fun K hK => ?_); try go_simp; refine hK _ _ ?_; clear hK K) | (refine qF J J J _ (by go_simp; rfl) (fun K hK => ?_); try go_simp; refine hK _ _ ?_; clear hK K))
   refine bc J J J (fun K hK => ?_)
   go_simp
   refine (HP.out _).mono ?_; rintro e w2 ⟨rfl, hb2⟩
   try go_simp
   refine hK _ _ ⟨(InvB.refl _ _).below hb2 (by have := hb.size; simp at this ⊢; omega), ?_⟩; clear hK K
   obtain ⟨hcb2, hfb2⟩ := mm hb2
   iterate 4 (first | (refine kU rfl (fun K hK => ?_); try go_simp; refine hK _ _ ?_; clear hK K) | (refine aE J J _ (fun w' hI => by unfold InvB at hI; go_simp; rfl) (fun K hK => ?_); try go_simp; refine hK _ _ ?_; clear hK K) | (refine aE J J _ (fun w' hI => by go_simp; rfl) (fun K hK => ?_); try go_simp; refine hK _ _ ?_; clear hK K) | (refine qF J J J _ (by go_simp; rfl) (fun K hK => ?_); try go_simp; refine hK _ _ ?_; clear hK K))
   refine cZ ?_
   go_wp2
   go_ret
   have s1 := hb.size
   exact ⟨gf (by rw [HR.out]; rfl), ((Below.refl _ _).alloc (Nat.le_refl _) _).trans ((hb.mono (by simp)).drew.trans (hb2.mono (by simp at s1 ⊢; omega)))⟩
 · have HR := Lib.hid (show kj c s = ⟨#[]⟩ by unfold kj; rw [if_neg h])
   have hcode := qJ c s
   obtain ⟨d, hd⟩ : ∃ d, bj c s = d := ⟨_, rfl⟩
   have HC := Lib.hid (pK _ c d s hd fun w => fw c s w hs)
   have hq := aJ (show d ≠ 0 by omega)
   obtain ⟨hq1, hq2⟩ := hq
   clear h hcode hd
   go_enter Tryz.func104, Tryz.ntmps104
   go_wp2_with fail
   refine (HC.out _).mono ?_; rintro e w1 ⟨rfl, hb⟩
   obtain ⟨hcb, hfb⟩ := mm hb
   go_wp2_with fail
   go_ret
   exact ⟨gf HR.out.symm, ((Below.refl _ _).alloc (Nat.le_refl _) _).trans (hb.mono (by simp))⟩
end Go.Proofs.YthiocbcokfondaaGreatDoor
namespace Go.Proofs.YthiocbcokfondaaGreatDoor
open Go
def emptyB : ByteArray := ⟨#[]⟩
structure CQ where
 num : Nat
 rest : ByteArray
 err : Int
def ce (s : ByteArray) (e : Int) : CQ := if e = 0 then ⟨(cR s).1, s.extract (cR s).2.1 s.size, (cR s).2.2⟩ else ⟨0, s, e⟩
structure Cn where
 text : ByteArray
 rest : ByteArray
 err : Int
def kC (t : CQ) : Cn := if t.err = 0 then (if t.rest.size < t.num then ⟨⟨#[]⟩, t.rest, 4⟩ else ⟨t.rest.extract 0 t.num, t.rest.extract t.num t.rest.size, 0⟩) else ⟨⟨#[]⟩, t.rest, t.err⟩
def aG (s : ByteArray) (e : Int) : Cn := kC (ce s e)
structure Co where
 metas : List (ByteArray × ByteArray)
 rest : ByteArray
 err : Int
def d8 : Nat → ByteArray → Int → List (ByteArray × ByteArray) → Co
 | 0, s, e, acc => ⟨acc, s, e⟩
 | k + 1, s, e, acc => if e = 0 then d8 k (aG (aG s e).rest (aG s e).err).rest (aG (aG s e).rest (aG s e).err).err (acc ++ [((aG s e).text, (aG (aG s e).rest (aG s e).err).text)]) else ⟨acc, s, e⟩
structure ju where
 svc : ByteArray
 mth : ByteArray
 late : Int
 metas : List (ByteArray × ByteArray)
def dC : ju := ⟨⟨#[]⟩, ⟨#[]⟩, 0, []⟩
def iZ (c : UInt8) : Bool := decide ((97 ≤ c.toNat ∧ c.toNat ≤ 122) ∨ (48 ≤ c.toNat ∧ c.toNat ≤ 57) ∨ c.toNat = 45)
def gQ (l : List UInt8) : Bool := decide (1 ≤ l.length ∧ l.length ≤ 40) && l.all iZ
def d4 : Nat → ByteArray → List (ByteArray × ByteArray) → Int
 | _, _, [] => 0
 | i, p, (k, v) :: r => if gQ k.data.toList = false then 8 else if 200 < v.size then 3 else if fT v = false then 7 else if 0 < i ∧ Op.bytesLess p.toList k.toList = false then 11 else d4 (i + 1) k r
def bk (h : ju) : Int :=
 if cL h.svc.data.toList = false ∨ bp h.mth.data.toList = false then 8 else if h.late < 0 ∨ 1099511627776 < h.late then 6 else if 16 < h.metas.length then 3 else d4 0 ⟨#[]⟩ h.metas
def aP (s : ByteArray) : List UInt8 := bB s.size ++ s.data.toList
def kY (m : ByteArray × ByteArray) : List UInt8 := aP m.1 ++ aP m.2
def dp (h : ju) : List UInt8 := aP h.svc ++ aP h.mth ++ bB h.late.toNat ++ bB h.metas.length ++ h.metas.flatMap kY
structure Dd where
 bytes : List UInt8
 err : Int
def kk (h : ju) : Dd := if bk h = 0 then ⟨dp h, 0⟩ else ⟨[], bk h⟩
structure Bl where
 head : ju
 err : Int
def gR (data : ByteArray) (h : ju) (late : Nat) (m : Co) : Bl :=
 if m.err ≠ 0 then ⟨dC, m.err⟩ else if m.rest.size ≠ 0 then ⟨dC, 18⟩ else if 1099511627776 < late then ⟨dC, 6⟩
 else if bk { h with late := late, metas := m.metas } ≠ 0 then ⟨dC, bk { h with late := late, metas := m.metas }⟩
 else if dp { h with late := late, metas := m.metas } ≠ data.data.toList then ⟨dC, 5⟩ else ⟨{ h with late := late, metas := m.metas }, 0⟩
def kZ (n : Nat) (s : ByteArray) (e : Int) : Co := if e = 0 then (if 16 < n then ⟨[], s, 3⟩ else d8 n s 0 []) else ⟨[], s, e⟩
def db (data : ByteArray) : Bl :=
 let a := aG data 0
 let b := aG a.rest a.err
 let c := ce b.rest b.err
 let d := ce c.rest c.err
 gR data ⟨a.text, b.text, 0, []⟩ c.num (kZ d.num d.rest d.err)
structure bd where
 kind : Int
 strm : Int
 num : Int
 data : ByteArray
def eY (k s : Int) : Bool := if k = 7 ∨ k = 8 ∨ k = 9 then decide (s = 0) else if k = 6 then decide (0 ≤ s) else decide (1 ≤ s)
def ij (k n : Int) : Bool := if k = 1 then decide (1 ≤ n ∧ n ≤ 4) else if k = 5 then decide (1 ≤ n ∧ n ≤ 13) else if k = 6 then decide (1 ≤ n ∧ n ≤ 1048576) else if k = 7 ∨ k = 8 then decide (0 ≤ n ∧ n ≤ 4294967295) else if k = 9 then decide (0 ≤ n ∧ n ≤ 2147483647) else decide (n = 0)
def gS (k : Int) (d : ByteArray) : Bool := decide (k = 1 ∨ k = 2 ∨ k = 4) || decide (d.size = 0)
def aQ (f : bd) : Int :=
 if f.kind < 1 ∨ 9 < f.kind ∨ eY f.kind f.strm = false ∨ ij f.kind f.num = false ∨ gS f.kind f.data = false then 1
 else if 16384 < f.data.size ∨ 2147483647 < f.strm then 3
 else if f.kind = 1 then (db f.data).err else if f.kind = 4 then (bA f.data).err else 0
theorem qK : ∀ a b : List UInt8, (Op.bytesLess b a || b == a) = !(Op.bytesLess a b)
 | [], [] => rfl
 | [], _ :: _ => rfl
 | _ :: _, [] => rfl
 | x :: a, y :: b => by
  have ih := qK a b
  simp only [Op.bytesLess]
  have hc : ((y :: b) == (x :: a)) = ((y == x) && (b == a)) := rfl
  rw [hc]
  rcases Nat.lt_trichotomy x.toNat y.toNat with h | h | h
  · have h1 : x < y := UInt8.lt_iff_toNat_lt.2 h
    have h2 : ¬ y < x := fun e => by have := UInt8.lt_iff_toNat_lt.1 e; omega
    have h3 : ¬ y = x := fun e => by rw [e] at h; omega
    simp [h1, h2, h3]
  · have h3 : x = y := UInt8.toNat_inj.1 h
    subst h3
    have h2 : ¬ x < x := fun e => by have := UInt8.lt_iff_toNat_lt.1 e; omega
    simp [h2, ih]
  · have h1 : y < x := UInt8.lt_iff_toNat_lt.2 h
    have h2 : ¬ x < y := fun e => by have := UInt8.lt_iff_toNat_lt.1 e; omega
    have h3 : ¬ x = y := fun e => by rw [e] at h; omega
    simp [h1, h2, h3]
def d9 (ms : List (ByteArray × ByteArray)) (k : Nat) : ByteArray := (ms.getD (k - 1) (⟨#[]⟩, ⟨#[]⟩)).1
theorem sJ {ms : List (ByteArray × ByteArray)} {k : Nat} (h : k < ms.length) : d9 ms (k + 1) = ms[k].1 := by
 unfold d9; rw [show k + 1 - 1 = k by omega, List.getD_eq_getElem?_getD, List.getElem?_eq_getElem h]; rfl
theorem m8 {ms : List (ByteArray × ByteArray)} {k : Nat} (h : k < ms.length) (p : ByteArray) : d4 k p (ms.drop k) =
 if gQ ms[k].1.data.toList = false then 8 else if 200 < ms[k].2.size then 3 else if fT ms[k].2 = false then 7 else if 0 < k ∧ Op.bytesLess p.toList ms[k].1.toList = false then 11 else d4 (k + 1) (d9 ms (k + 1)) (ms.drop (k + 1)) := by
 rw [sJ h, List.drop_eq_getElem_cons h]
 rfl
theorem qL {l : List UInt8} {k : Nat} (h : k < l.length) (hg : iZ l[k] = false) : gQ l = false := by
 unfold gQ
 have : l.all iZ = false := by rw [List.all_eq_false]; exact ⟨l[k], List.getElem_mem h, by simp [hg]⟩
 rw [this, Bool.and_false]
theorem qM {l : List UInt8} (h1 : 1 ≤ l.length ∧ l.length ≤ 40) (hg : ∀ k (h : k < l.length), iZ l[k] = true) : gQ l = true := by
 unfold gQ
 rw [decide_eq_true h1, Bool.true_and, List.all_eq_true]
 intro x hx
 obtain ⟨k, hk, rfl⟩ := List.mem_iff_getElem.1 hx
 exact hg k hk
theorem oL {l : List UInt8} (h : ¬ (1 ≤ l.length ∧ l.length ≤ 40)) : gQ l = false := by unfold gQ; rw [decide_eq_false h]; rfl
theorem m9 (c : UInt8) : (iZ c = true ∧ (97 ≤ c.toNat ∧ c.toNat ≤ 122)) ∨ (iZ c = true ∧ 48 ≤ c.toNat ∧ c.toNat ≤ 57) ∨ (iZ c = true ∧ c.toNat = 45) ∨ (iZ c = false ∧ (c.toNat < 97 ∨ 122 < c.toNat) ∧ (c.toNat < 48 ∨ 57 < c.toNat) ∧ c.toNat ≠ 45) := by
 unfold iZ; simp only [decide_eq_true_eq, decide_eq_false_iff_not]; omega
end Go.Proofs.YthiocbcokfondaaGreatDoor
