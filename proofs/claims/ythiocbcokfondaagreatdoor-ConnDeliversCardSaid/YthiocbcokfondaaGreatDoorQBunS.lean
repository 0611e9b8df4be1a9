/- Texts of this claim merged into one: QUtf, QStat, QFrLaw. -/
import Derived.Test.YthiocbcokfondaaGreatDoorQBunU
import Derived.Test.YthiocbcokfondaaGreatDoorQShelf
import Derived.WalkKit
import Derived.WalkSpells
import Derived.WalkLawsBesides
import Derived.Lib.Hide
import Derived.Lib.OthersKept
import Derived.WalkSmall
import Derived.Below
import Derived.Test.YthiocbcokfondaaGreatDoorQBunV
import Derived.Test.YthiocbcokfondaaGreatDoorQBunG
import GoSem.Op.String
namespace Go.Proofs.YthiocbcokfondaaGreatDoor
open Go.RowKit
theorem eI (s : ByteArray) {i k : Nat} (h : i + k < s.size) : (s[i + k].toNat : Nat) = dj (s.data.toList.drop i) k := by
  rw [← yB]
  congr 1
  show s.data[i + k] = s.data[i + k]!
  rw [getElem!_pos]
theorem aP {a b : Bool} (h : a = b) : Ending.returned (.bool a) = .returned (.bool b) := by rw [h]
theorem aZ {k : IntKind} {a b : Int} (h : a = b) : Ending.returned (.int k a) = .returned (.int k b) := by rw [h]
theorem aM {a c : Int} (h : a ≠ c) : (a == c) = false ∧ (a != c) = true := by
  have : (a == c) = false := by simpa using h
  exact ⟨this, by rw [bne, this]; rfl⟩
theorem jS {a c : Int} (h : a = c) : (a == c) = true ∧ (a != c) = false := by
  have : (a == c) = true := by simpa using h
  exact ⟨this, by rw [bne, this]; rfl⟩
theorem wX (s : ByteArray) (i : Nat) (c : Int) (w : World) (hi : i ≤ s.size) (_ : s.size ≤ 4611686018427387900) :
    Calls Tryz.prog 210 #[.string s, .int .i64 i, .int .i32 c] w fun e w' => e = .returned (.bool (decide (c = 65533) && !pU (s.data.toList.drop i))) ∧ w = w' := by
  have he : (s.extract i s.size).data.toList = s.data.toList.drop i := by
    rw [ByteArray.data_extract, Array.toList_extract, List.extract_eq_take_drop, List.take_of_length_le]
    rw [List.length_drop, Array.length_toList]; exact Nat.le_refl _
  have HP := Lib.hid (show ∀ w, Calls Tryz.prog 215 #[.string (s.extract i s.size), .string ⟨#[239, 191, 189]⟩] w fun e w' => e = .returned (.bool (pU (s.data.toList.drop i))) ∧ w = w' from
    fun w => (Tryz.strings_HasPrefix _ _ w).mono fun e w' ⟨h1, h2⟩ => ⟨by rw [h1, he]; rfl, h2.symm⟩)
  clear he
  by_cases hc : c = 65533
  · subst hc
    go_enter Tryz.func210, Tryz.ntmps210
    go_wp2_with fail
    refine (HP.out _).mono ?_; rintro e w1 ⟨rfl, rfl⟩
    go_wp2_with fail
    go_ret
    exact ⟨aP (by simp), rfl⟩
  · obtain ⟨hq, _⟩ := aM hc
    have HR := Lib.hid (show (decide (c = 65533) && !pU (s.data.toList.drop i)) = false by rw [decide_eq_false hc]; rfl)
    clear hc
    go_enter Tryz.func210, Tryz.ntmps210
    go_wp2_with fail
    go_ret
    exact ⟨aP HR.out.symm, rfl⟩
theorem uI (s : ByteArray) (w : World) (hs : s.size ≤ 4611686018427387900) :
    Calls Tryz.prog 191 #[.string s] w fun e w' => e = .returned (.int .i64 (lg s)) ∧ Below w.heap.size w w' := by
  have HS := Lib.hid hs; clear hs
  go_enter Tryz.func191, Tryz.ntmps191
  go_wp2
  go_loopw [] (fun wr => ∃ pos : Nat, pos ≤ s.size ∧ wr.heap[w.heap.size]? = some (.stringIter s pos) ∧ Below w.heap.size w wr ∧ lg s = ip s pos) (fun wr => s.size - wr.iterPos w.heap.size)
  case atStart => exact ⟨0, Nat.zero_le _, World.iter_heap w s 0, (Below.refl _ w).alloc (Nat.le_refl _) _, rfl⟩
  case round =>
    obtain ⟨pos, hpos, hit, hbw, hx⟩ := hrel
    have HX := Lib.hid hx; have HB := Lib.hid hbw; clear hx hbw
    by_cases hp : pos < s.size
    · have hnx : ∀ ty, (Instr.next (.pointer (some ⟨w.heap.size, 0, none⟩)) true ty).run Tryz.prog wr = _ := fun ty => Lib.run_next_any_at wr w.heap.size s pos ty hit hp
      have hdz := Cx (s.data.toList.drop pos)
      rw [← lb] at hdz
      have HIT := Lib.hid (Lib.iterAt_heap wr w.heap.size s pos (pos + (Utf8.decode s pos).2) hit)
      have HB2 := Lib.hid (Lib.below_iterAt HB.out (k := w.heap.size) (Nat.le_refl _) s (pos + (Utf8.decode s pos).2))
      have HO := Lib.hid hit; clear hit
      have hzl := yD (s.data.toList.drop pos) (by rw [← kw]; exact hp)
      have hlen : (s.data.toList.drop pos).length = s.size - pos := by rw [List.length_drop, Array.length_toList]; rfl
      have HW := Lib.hid (fun w c => wX s pos c w hpos HS.out)
      have HST := Lib.hid (oz s pos hp)
      have HWR := Lib.hid (nh s pos hp)
      generalize Utf8.decode s pos = D at *
      obtain ⟨dc, dn⟩ := D
      rcases hdz with ⟨hz, hd, hf⟩ | ⟨hz, hd, hf⟩
      · obtain ⟨rfl, rfl⟩ := Prod.mk.inj hd
        have HR := Lib.hid (show lg s = pos by rw [HX.out, HWR.out hz])
        have HC := Lib.hid (fun w => (HW.out w 65533).mono fun e w' h => (show e = .returned (.bool true) ∧ w = w' by rw [hf] at h; exact h))
        clear hz hf hzl hlen hd
        go_wp2_with fail
        refine (HC.out _).mono ?_; rintro e w1 ⟨rfl, rfl⟩
        go_wp2_with fail
        go_ret
        exact ⟨aZ HR.out.symm, HB2.out⟩
      · have HR := Lib.hid (show lg s = ip s (pos + dn) by rw [HX.out, HST.out hz]; rw [← hd])
        have hw0 : (decide ((dc : Int) = 65533) && !pU (s.data.toList.drop pos)) = false := by
          rcases hf with h | h
          · rw [decide_eq_false (show ¬ (dc : Int) = 65533 by have : dc ≠ 65533 := h; omega)]; rfl
          · rw [h]; simp
        have HC := Lib.hid (fun w => (HW.out w dc).mono fun e w' h => (show e = .returned (.bool false) ∧ w = w' by rw [hw0] at h; exact h))
        have hz1 : pos + dn ≤ s.size := by have : dn = _ := hd; omega
        have hz2 : 0 < dn := by have : dn = _ := hd; omega
        clear hz hf hw0 hzl hlen hd
        go_wp2_with fail
        refine (HC.out _).mono ?_; rintro e w1 ⟨rfl, rfl⟩
        go_wp2_with fail
        go_roundw
        case rel => exact ⟨pos + dn, hz1, HIT.out, HB2.out, HR.out⟩
        case measure => rw [iterPos_of HIT.out, iterPos_of HO.out]; show s.size - (pos + dn) < s.size - pos; omega
    · have hnx : ∀ ty, (Instr.next (.pointer (some ⟨w.heap.size, 0, none⟩)) true ty).run Tryz.prog wr = _ := fun ty => Lib.run_next_end_at wr w.heap.size s pos ty hit hp
      have HR := Lib.hid (show lg s = -1 by rw [HX.out, qq s pos (by omega)])
      go_wp2_with fail
      go_ret
      exact ⟨aZ HR.out.symm, HB.out⟩
theorem lL (s : ByteArray) (w : World) (hs : s.size ≤ 4611686018427387900) :
    Calls Tryz.prog 161 #[.string s] w fun e w' => e = .returned (.bool (gV s)) ∧ Below w.heap.size w w' := by
  have HC := Lib.hid (fun w => uI s w hs)
  have HV := Lib.hid (show gV s = decide (lg s < 0) from rfl)
  generalize lg s = B at *
  go_enter Tryz.func161, Tryz.ntmps161
  go_wp2_with fail
  refine (HC.out _).mono ?_; rintro e w1 ⟨rfl, hb⟩
  go_wp2_with fail
  go_ret
  exact ⟨aP HV.out.symm, hb⟩
end Go.Proofs.YthiocbcokfondaaGreatDoor
namespace Go.Proofs.YthiocbcokfondaaGreatDoor
open Go.RowKit
theorem sZ {W w1 : World} (hb : Below W.heap.size W w1) : (∀ b o, b < W.heap.size → w1.cell? ⟨b, o, none⟩ = W.cell? ⟨b, o, none⟩) ∧ (∀ b o, b < W.heap.size → w1.frozen? ⟨b, o, none⟩ = W.frozen? ⟨b, o, none⟩) :=
  ⟨fun b o h => hb.cell (p := ⟨b, o, none⟩) h, fun b o h => hb.frozen (p := ⟨b, o, none⟩) h⟩
def bU (c : Int) (s : ByteArray) : Int := if c < 0 ∨ 13 < c then 1 else if gV s = false then 7 else if 4096 < s.size then 3 else if c = 0 ∧ s.size ≠ 0 then 1 else 0
def ED (l : List UInt8) (s : ByteArray) : ByteArray := ⟨l.toArray⟩ ++ s
def DK (c : Int) (s : ByteArray) : ByteArray := if bU c s = 0 then ED (bB c.toNat) s else ⟨#[]⟩
structure E5 where
  code : Int
  text : ByteArray
  err : Int
def gF (s : ByteArray) (u n : Nat) : E5 :=
  if n ≠ (bB u).length then ⟨0, ⟨#[]⟩, 5⟩ else if 13 < u then ⟨0, ⟨#[]⟩, 6⟩
  else if bU u (s.extract n s.size) = 0 then ⟨u, s.extract n s.size, 0⟩ else ⟨0, ⟨#[]⟩, bU u (s.extract n s.size)⟩
def bu (s : ByteArray) : E5 := if (cM s).2.2 = 0 then gF s (cM s).1 (cM s).2.1 else ⟨0, ⟨#[]⟩, (cM s).2.2⟩
theorem mE {s : ByteArray} : (s.size = 0) ↔ s.toList = [] := by
  rw [ByteArray.toList_eq, ← List.length_eq_zero_iff, Array.length_toList]; exact Iff.rfl
theorem lM {s : ByteArray} (h : s.size = 0) : s.toList.isEmpty = true ∧ s.toList = [] := ⟨by rw [mE.1 h]; rfl, mE.1 h⟩
theorem kA {s : ByteArray} (h : s.size ≠ 0) : s.toList.isEmpty = false ∧ ¬ s.toList = [] := by
  have : ¬ s.toList = [] := fun e => h (mE.2 e)
  exact ⟨by cases hh : s.toList with | nil => exact absurd hh this | cons => rfl, this⟩
set_option maxHeartbeats 1000000 in
theorem kB (c : Int) (s : ByteArray) (w : World) (hs : s.size ≤ 4611686018427387900) :
    Calls Tryz.prog 106 #[.agg #[.int .i64 c, .string s]] w fun e w' => e = .returned (.int .i64 (bU c s)) ∧ Below w.heap.size w w' := by
  by_cases h1 : c < 0
  · have HR := Lib.hid (show bU c s = 1 by unfold bU; rw [if_pos (.inl h1)])
    go_enter Tryz.func106, Tryz.ntmps106
    go_wp2_with fail
    go_ret
    exact ⟨aZ (by rw [HR.out]), (Below.refl _ _).alloc (Nat.le_refl _) _⟩
  by_cases h2 : 13 < c
  · have HR := Lib.hid (show bU c s = 1 by unfold bU; rw [if_pos (.inr h2)])
    go_enter Tryz.func106, Tryz.ntmps106
    go_wp2_with fail
    go_ret
    exact ⟨aZ (by rw [HR.out]), (Below.refl _ _).alloc (Nat.le_refl _) _⟩
  have hV := fun w => lL s w hs
  cases hv : gV s with
  | false =>
    rw [hv] at hV
    have HV := Lib.hid hV
    have HR := Lib.hid (show bU c s = 7 by unfold bU; rw [if_neg (by omega), if_pos hv])
    clear hv hV
    go_enter Tryz.func106, Tryz.ntmps106
    go_wp2_with fail
    refine (HV.out _).mono ?_; rintro e w1 ⟨rfl, hb⟩
    obtain ⟨hcb, hfb⟩ := sZ hb
    go_wp2_with fail
    go_ret
    exact ⟨aZ (by rw [HR.out]), ((Below.refl _ _).alloc (Nat.le_refl _) _).trans (hb.mono (by simp))⟩
  | true =>
    rw [hv] at hV
    have HV := Lib.hid hV
    by_cases h3 : 4096 < s.size
    · have HR := Lib.hid (show bU c s = 3 by unfold bU; rw [if_neg (by omega), if_neg (by rw [hv]; simp), if_pos h3])
      clear hv hV
      go_enter Tryz.func106, Tryz.ntmps106
      go_wp2_with fail
      refine (HV.out _).mono ?_; rintro e w1 ⟨rfl, hb⟩
      obtain ⟨hcb, hfb⟩ := sZ hb
      go_wp2_with fail
      go_ret
      exact ⟨aZ (by rw [HR.out]), ((Below.refl _ _).alloc (Nat.le_refl _) _).trans (hb.mono (by simp))⟩
    · by_cases h4 : c = 0
      · subst h4
        by_cases h5 : s.size = 0
        · obtain ⟨e1, e2⟩ := lM h5
          have HR := Lib.hid (show bU 0 s = 0 by unfold bU; rw [if_neg (by omega), if_neg (by rw [hv]; simp), if_neg h3, if_neg (by omega)])
          clear hv hV h5
          go_enter Tryz.func106, Tryz.ntmps106
          go_wp2_with fail
          refine (HV.out _).mono ?_; rintro e w1 ⟨rfl, hb⟩
          obtain ⟨hcb, hfb⟩ := sZ hb
          go_wp2_with fail
          go_ret
          exact ⟨aZ (by rw [HR.out]), ((Below.refl _ _).alloc (Nat.le_refl _) _).trans (hb.mono (by simp))⟩
        · obtain ⟨e1, e2⟩ := kA h5
          have HR := Lib.hid (show bU 0 s = 1 by unfold bU; rw [if_neg (by omega), if_neg (by rw [hv]; simp), if_neg h3, if_pos ⟨rfl, h5⟩])
          clear hv hV h5
          go_enter Tryz.func106, Tryz.ntmps106
          go_wp2_with fail
          refine (HV.out _).mono ?_; rintro e w1 ⟨rfl, hb⟩
          obtain ⟨hcb, hfb⟩ := sZ hb
          go_wp2_with fail
          go_ret
          exact ⟨aZ (by rw [HR.out]), ((Below.refl _ _).alloc (Nat.le_refl _) _).trans (hb.mono (by simp))⟩
      · have hq := (aM h4).1
        have HR := Lib.hid (show bU c s = 0 by unfold bU; rw [if_neg (by omega), if_neg (by rw [hv]; simp), if_neg h3, if_neg (by omega)])
        clear hv hV h4
        go_enter Tryz.func106, Tryz.ntmps106
        go_wp2_with fail
        refine (HV.out _).mono ?_; rintro e w1 ⟨rfl, hb⟩
        obtain ⟨hcb, hfb⟩ := sZ hb
        go_wp2_with fail
        go_ret
        exact ⟨aZ (by rw [HR.out]), ((Below.refl _ _).alloc (Nat.le_refl _) _).trans (hb.mono (by simp))⟩
theorem yL (f : FuncId) (c d : Int) (s : ByteArray) (h : bU c s = d) (hc : ∀ w, Calls Tryz.prog f #[.agg #[.int .i64 c, .string s]] w fun e w' => e = .returned (.int .i64 (bU c s)) ∧ Below w.heap.size w w') (w : World) :
    Calls Tryz.prog f #[.agg #[.int .i64 c, .string s]] w fun e w' => e = .returned (.int .i64 d) ∧ Below w.heap.size w w' := by subst h; exact hc w
end Go.Proofs.YthiocbcokfondaaGreatDoor
namespace Go.Proofs.YthiocbcokfondaaGreatDoor
open Go
def emptyB : ByteArray := ⟨#[]⟩
structure E6 where
  num : Nat
  rest : ByteArray
  err : Int
def bX (s : ByteArray) (e : Int) : E6 := if e = 0 then ⟨(cM s).1, s.extract (cM s).2.1 s.size, (cM s).2.2⟩ else ⟨0, s, e⟩
structure EF where
  text : ByteArray
  rest : ByteArray
  err : Int
def li (t : E6) : EF := if t.err = 0 then (if t.rest.size < t.num then ⟨⟨#[]⟩, t.rest, 4⟩ else ⟨t.rest.extract 0 t.num, t.rest.extract t.num t.rest.size, 0⟩) else ⟨⟨#[]⟩, t.rest, t.err⟩
def aE (s : ByteArray) (e : Int) : EF := li (bX s e)
structure EG where
  metas : List (ByteArray × ByteArray)
  rest : ByteArray
  err : Int
def ew : Nat → ByteArray → Int → List (ByteArray × ByteArray) → EG
  | 0, s, e, acc => ⟨acc, s, e⟩
  | k + 1, s, e, acc => if e = 0 then ew k (aE (aE s e).rest (aE s e).err).rest (aE (aE s e).rest (aE s e).err).err (acc ++ [((aE s e).text, (aE (aE s e).rest (aE s e).err).text)]) else ⟨acc, s, e⟩
structure ir where
  svc : ByteArray
  mth : ByteArray
  late : Int
  metas : List (ByteArray × ByteArray)
def dD : ir := ⟨⟨#[]⟩, ⟨#[]⟩, 0, []⟩
def jt (c : UInt8) : Bool := decide ((97 ≤ c.toNat ∧ c.toNat ≤ 122) ∨ (48 ≤ c.toNat ∧ c.toNat ≤ 57) ∨ c.toNat = 45)
def iu (l : List UInt8) : Bool := decide (1 ≤ l.length ∧ l.length ≤ 40) && l.all jt
def ek : Nat → ByteArray → List (ByteArray × ByteArray) → Int
  | _, _, [] => 0
  | i, p, (k, v) :: r => if iu k.data.toList = false then 8 else if 200 < v.size then 3 else if gV v = false then 7 else if 0 < i ∧ Op.bytesLess p.toList k.toList = false then 11 else ek (i + 1) k r
def bo (h : ir) : Int :=
  if cH h.svc.data.toList = false ∨ bm h.mth.data.toList = false then 8 else if h.late < 0 ∨ 1099511627776 < h.late then 6 else if 16 < h.metas.length then 3 else ek 0 ⟨#[]⟩ h.metas
def aS (s : ByteArray) : List UInt8 := bB s.size ++ s.data.toList
def qs (m : ByteArray × ByteArray) : List UInt8 := aS m.1 ++ aS m.2
def dE (h : ir) : List UInt8 := aS h.svc ++ aS h.mth ++ bB h.late.toNat ++ bB h.metas.length ++ h.metas.flatMap qs
structure Fv where
  bytes : List UInt8
  err : Int
def lN (h : ir) : Fv := if bo h = 0 then ⟨dE h, 0⟩ else ⟨[], bo h⟩
structure DL where
  head : ir
  err : Int
def iv (data : ByteArray) (h : ir) (late : Nat) (m : EG) : DL :=
  if m.err ≠ 0 then ⟨dD, m.err⟩ else if m.rest.size ≠ 0 then ⟨dD, 18⟩ else if 1099511627776 < late then ⟨dD, 6⟩
  else if bo { h with late := late, metas := m.metas } ≠ 0 then ⟨dD, bo { h with late := late, metas := m.metas }⟩
  else if dE { h with late := late, metas := m.metas } ≠ data.data.toList then ⟨dD, 5⟩ else ⟨{ h with late := late, metas := m.metas }, 0⟩
def lO (n : Nat) (s : ByteArray) (e : Int) : EG := if e = 0 then (if 16 < n then ⟨[], s, 3⟩ else ew n s 0 []) else ⟨[], s, e⟩
def cP (data : ByteArray) : DL :=
  let a := aE data 0
  let b := aE a.rest a.err
  let c := bX b.rest b.err
  let d := bX c.rest c.err
  iv data ⟨a.text, b.text, 0, []⟩ c.num (lO d.num d.rest d.err)
structure aY where
  kind : Int
  strm : Int
  num : Int
  data : ByteArray
def ft (k s : Int) : Bool := if k = 7 ∨ k = 8 ∨ k = 9 then decide (s = 0) else if k = 6 then decide (0 ≤ s) else decide (1 ≤ s)
def gG (k n : Int) : Bool := if k = 1 then decide (1 ≤ n ∧ n ≤ 4) else if k = 5 then decide (1 ≤ n ∧ n ≤ 13) else if k = 6 then decide (1 ≤ n ∧ n ≤ 1048576) else if k = 7 ∨ k = 8 then decide (0 ≤ n ∧ n ≤ 4294967295) else if k = 9 then decide (0 ≤ n ∧ n ≤ 2147483647) else decide (n = 0)
def gX (k : Int) (d : ByteArray) : Bool := decide (k = 1 ∨ k = 2 ∨ k = 4) || decide (d.size = 0)
def aR (f : aY) : Int :=
  if f.kind < 1 ∨ 9 < f.kind ∨ ft f.kind f.strm = false ∨ gG f.kind f.num = false ∨ gX f.kind f.data = false then 1
  else if 16384 < f.data.size ∨ 2147483647 < f.strm then 3
  else if f.kind = 1 then (cP f.data).err else if f.kind = 4 then (bu f.data).err else 0
theorem te : ∀ a b : List UInt8, (Op.bytesLess b a || b == a) = !(Op.bytesLess a b)
  | [], [] => rfl
  | [], _ :: _ => rfl
  | _ :: _, [] => rfl
  | x :: a, y :: b => by
    have ih := te a b
    simp only [Op.bytesLess]
    have hc : ((y :: b) == (x :: a)) = ((y == x) && (b == a)) := rfl
    rw [hc]
    rcases Nat.lt_trichotomy x.toNat y.toNat with h | h | h
    · have h1 : x < y := UInt8.lt_iff_toNat_lt.2 h
      have h2 : ¬ y < x := fun e => by have := UInt8.lt_iff_toNat_lt.1 e; omega
      have h3 : ¬ y = x := fun e => by rw [e] at h; omega
      simp [h1, h2, h3]
    · have h3 : x = y := UInt8.toNat_inj.1 h
      subst h3
      have h2 : ¬ x < x := fun e => by have := UInt8.lt_iff_toNat_lt.1 e; omega
      simp [h2, ih]
    · have h1 : y < x := UInt8.lt_iff_toNat_lt.2 h
      have h2 : ¬ x < y := fun e => by have := UInt8.lt_iff_toNat_lt.1 e; omega
      have h3 : ¬ x = y := fun e => by rw [e] at h; omega
      simp [h1, h2, h3]
def ez (ms : List (ByteArray × ByteArray)) (k : Nat) : ByteArray := (ms.getD (k - 1) (⟨#[]⟩, ⟨#[]⟩)).1
theorem uJ {ms : List (ByteArray × ByteArray)} {k : Nat} (h : k < ms.length) : ez ms (k + 1) = ms[k].1 := by
  unfold ez; rw [show k + 1 - 1 = k by omega, List.getD_eq_getElem?_getD, List.getElem?_eq_getElem h]; rfl
theorem oF {ms : List (ByteArray × ByteArray)} {k : Nat} (h : k < ms.length) (p : ByteArray) : ek k p (ms.drop k) =
    if iu ms[k].1.data.toList = false then 8 else if 200 < ms[k].2.size then 3 else if gV ms[k].2 = false then 7 else if 0 < k ∧ Op.bytesLess p.toList ms[k].1.toList = false then 11 else ek (k + 1) (ez ms (k + 1)) (ms.drop (k + 1)) := by
  rw [uJ h, List.drop_eq_getElem_cons h]
  rfl
theorem tf {l : List UInt8} {k : Nat} (h : k < l.length) (hg : jt l[k] = false) : iu l = false := by
  unfold iu
  have : l.all jt = false := by rw [List.all_eq_false]; exact ⟨l[k], List.getElem_mem h, by simp [hg]⟩
  rw [this, Bool.and_false]
theorem tg {l : List UInt8} (h1 : 1 ≤ l.length ∧ l.length ≤ 40) (hg : ∀ k (h : k < l.length), jt l[k] = true) : iu l = true := by
  unfold iu
  rw [decide_eq_true h1, Bool.true_and, List.all_eq_true]
  intro x hx
  obtain ⟨k, hk, rfl⟩ := List.mem_iff_getElem.1 hx
  exact hg k hk
theorem qt {l : List UInt8} (h : ¬ (1 ≤ l.length ∧ l.length ≤ 40)) : iu l = false := by unfold iu; rw [decide_eq_false h]; rfl
theorem oG (c : UInt8) : (jt c = true ∧ (97 ≤ c.toNat ∧ c.toNat ≤ 122)) ∨ (jt c = true ∧ 48 ≤ c.toNat ∧ c.toNat ≤ 57) ∨ (jt c = true ∧ c.toNat = 45) ∨ (jt c = false ∧ (c.toNat < 97 ∨ 122 < c.toNat) ∧ (c.toNat < 48 ∨ 57 < c.toNat) ∧ c.toNat ≠ 45) := by
  unfold jt; simp only [decide_eq_true_eq, decide_eq_false_iff_not]; omega
end Go.Proofs.YthiocbcokfondaaGreatDoor
