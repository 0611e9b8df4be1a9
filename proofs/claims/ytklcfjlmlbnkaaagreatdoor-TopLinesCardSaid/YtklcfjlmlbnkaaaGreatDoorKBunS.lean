/- Texts of this claim merged into one: KUtf, KStat, KFrLaw. -/
import Derived.Test.YtklcfjlmlbnkaaaGreatDoorKBunU
import Derived.Test.YtklcfjlmlbnkaaaGreatDoorKShelf
import Derived.WalkKit
import Derived.WalkSpells
import Derived.WalkLawsBesides
import Derived.Lib.Hide
import Derived.Lib.OthersKept
import Derived.WalkSmall
import Derived.Below
import Derived.Test.YtklcfjlmlbnkaaaGreatDoorKBunG
import GoSem.Op.String
namespace Go.Proofs.YtklcfjlmlbnkaaaGreatDoor
open Go.RowKit
theorem Dz (s : ByteArray) {i k : Nat} (h : i + k < s.size) : (s[i + k].toNat : Nat) = dx (s.data.toList.drop i) k := by
  rw [← AO]
  congr 1
  show s.data[i + k] = s.data[i + k]!
  rw [getElem!_pos]
theorem bn {a b : Bool} (h : a = b) : Ending.returned (.bool a) = .returned (.bool b) := by rw [h]
theorem dW {k : IntKind} {a b : Int} (h : a = b) : Ending.returned (.int k a) = .returned (.int k b) := by rw [h]
theorem cj {a c : Int} (h : a ≠ c) : (a == c) = false ∧ (a != c) = true := by
  have : (a == c) = false := by simpa using h
  exact ⟨this, by rw [bne, this]; rfl⟩
theorem AV {a c : Int} (h : a = c) : (a == c) = true ∧ (a != c) = false := by
  have : (a == c) = true := by simpa using h
  exact ⟨this, by rw [bne, this]; rfl⟩
theorem yS (s : ByteArray) (i : Nat) (c : Int) (w : World) (hi : i ≤ s.size) (_ : s.size ≤ 4611686018427387900) :
    Calls Tryz.prog 122 #[.string s, .int .i64 i, .int .i32 c] w fun e w' => e = .returned (.bool (decide (c = 65533) && !qi (s.data.toList.drop i))) ∧ w = w' := by
  have he : (s.extract i s.size).data.toList = s.data.toList.drop i := by
    rw [ByteArray.data_extract, Array.toList_extract, List.extract_eq_take_drop, List.take_of_length_le]
    rw [List.length_drop, Array.length_toList]; exact Nat.le_refl _
  have HP := Lib.hid (show ∀ w, Calls Tryz.prog 133 #[.string (s.extract i s.size), .string ⟨#[239, 191, 189]⟩] w fun e w' => e = .returned (.bool (qi (s.data.toList.drop i))) ∧ w = w' from
    fun w => (Tryz.strings_HasPrefix _ _ w).mono fun e w' ⟨h1, h2⟩ => ⟨by rw [h1, he]; rfl, h2.symm⟩)
  clear he
  by_cases hc : c = 65533
  · subst hc
    go_enter Tryz.func122, Tryz.ntmps122
    go_wp2_with fail
    refine (HP.out _).mono ?_; rintro e w1 ⟨rfl, rfl⟩
    go_wp2_with fail
    go_ret
    exact ⟨bn (by simp), rfl⟩
  · obtain ⟨hq, _⟩ := cj hc
    have HR := Lib.hid (show (decide (c = 65533) && !qi (s.data.toList.drop i)) = false by rw [decide_eq_false hc]; rfl)
    clear hc
    go_enter Tryz.func122, Tryz.ntmps122
    go_wp2_with fail
    go_ret
    exact ⟨bn HR.out.symm, rfl⟩
theorem vV (s : ByteArray) (w : World) (hs : s.size ≤ 4611686018427387900) :
    Calls Tryz.prog 99 #[.string s] w fun e w' => e = .returned (.int .i64 (tG s)) ∧ Below w.heap.size w w' := by
  have HS := Lib.hid hs; clear hs
  go_enter Tryz.func99, Tryz.ntmps99
  go_wp2
  go_loopw [] (fun wr => ∃ pos : Nat, pos ≤ s.size ∧ wr.heap[w.heap.size]? = some (.stringIter s pos) ∧ Below w.heap.size w wr ∧ tG s = jJ s pos) (fun wr => s.size - wr.iterPos w.heap.size)
  case atStart => exact ⟨0, Nat.zero_le _, World.iter_heap w s 0, (Below.refl _ w).alloc (Nat.le_refl _) _, rfl⟩
  case round =>
    obtain ⟨pos, hpos, hit, hbw, hx⟩ := hrel
    have HX := Lib.hid hx; have HB := Lib.hid hbw; clear hx hbw
    by_cases hp : pos < s.size
    · have hnx : ∀ ty, (Instr.next (.pointer (some ⟨w.heap.size, 0, none⟩)) true ty).run Tryz.prog wr = _ := fun ty => Lib.run_next_any_at wr w.heap.size s pos ty hit hp
      have hdz := Ff (s.data.toList.drop pos)
      rw [← lE] at hdz
      have HIT := Lib.hid (Lib.iterAt_heap wr w.heap.size s pos (pos + (Utf8.decode s pos).2) hit)
      have HB2 := Lib.hid (Lib.below_iterAt HB.out (k := w.heap.size) (Nat.le_refl _) s (pos + (Utf8.decode s pos).2))
      have HO := Lib.hid hit; clear hit
      have hzl := Fg (s.data.toList.drop pos) (by rw [← qE]; exact hp)
      have hlen : (s.data.toList.drop pos).length = s.size - pos := by rw [List.length_drop, Array.length_toList]; rfl
      have HW := Lib.hid (fun w c => yS s pos c w hpos HS.out)
      have HST := Lib.hid (vS s pos hp)
      have HWR := Lib.hid (tF s pos hp)
      generalize Utf8.decode s pos = D at *
      obtain ⟨dc, dn⟩ := D
      rcases hdz with ⟨hz, hd, hf⟩ | ⟨hz, hd, hf⟩
      · obtain ⟨rfl, rfl⟩ := Prod.mk.inj hd
        have HR := Lib.hid (show tG s = pos by rw [HX.out, HWR.out hz])
        have HC := Lib.hid (fun w => (HW.out w 65533).mono fun e w' h => (show e = .returned (.bool true) ∧ w = w' by rw [hf] at h; exact h))
        clear hz hf hzl hlen hd
        go_wp2_with fail
        refine (HC.out _).mono ?_; rintro e w1 ⟨rfl, rfl⟩
        go_wp2_with fail
        go_ret
        exact ⟨dW HR.out.symm, HB2.out⟩
      · have HR := Lib.hid (show tG s = jJ s (pos + dn) by rw [HX.out, HST.out hz]; rw [← hd])
        have hw0 : (decide ((dc : Int) = 65533) && !qi (s.data.toList.drop pos)) = false := by
          rcases hf with h | h
          · rw [decide_eq_false (show ¬ (dc : Int) = 65533 by have : dc ≠ 65533 := h; omega)]; rfl
          · rw [h]; simp
        have HC := Lib.hid (fun w => (HW.out w dc).mono fun e w' h => (show e = .returned (.bool false) ∧ w = w' by rw [hw0] at h; exact h))
        have hz1 : pos + dn ≤ s.size := by have : dn = _ := hd; omega
        have hz2 : 0 < dn := by have : dn = _ := hd; omega
        clear hz hf hw0 hzl hlen hd
        go_wp2_with fail
        refine (HC.out _).mono ?_; rintro e w1 ⟨rfl, rfl⟩
        go_wp2_with fail
        go_roundw
        case rel => exact ⟨pos + dn, hz1, HIT.out, HB2.out, HR.out⟩
        case measure => rw [iterPos_of HIT.out, iterPos_of HO.out]; show s.size - (pos + dn) < s.size - pos; omega
    · have hnx : ∀ ty, (Instr.next (.pointer (some ⟨w.heap.size, 0, none⟩)) true ty).run Tryz.prog wr = _ := fun ty => Lib.run_next_end_at wr w.heap.size s pos ty hit hp
      have HR := Lib.hid (show tG s = -1 by rw [HX.out, yL s pos (by omega)])
      go_wp2_with fail
      go_ret
      exact ⟨dW HR.out.symm, HB.out⟩
theorem mh (s : ByteArray) (w : World) (hs : s.size ≤ 4611686018427387900) :
    Calls Tryz.prog 68 #[.string s] w fun e w' => e = .returned (.bool (kg s)) ∧ Below w.heap.size w w' := by
  have HC := Lib.hid (fun w => vV s w hs)
  have HV := Lib.hid (show kg s = decide (tG s < 0) from rfl)
  generalize tG s = B at *
  go_enter Tryz.func68, Tryz.ntmps68
  go_wp2_with fail
  refine (HC.out _).mono ?_; rintro e w1 ⟨rfl, hb⟩
  go_wp2_with fail
  go_ret
  exact ⟨bn HV.out.symm, hb⟩
end Go.Proofs.YtklcfjlmlbnkaaaGreatDoor
namespace Go.Proofs.YtklcfjlmlbnkaaaGreatDoor
open Go.RowKit
theorem tP {W w1 : World} (hb : Below W.heap.size W w1) : (∀ b o, b < W.heap.size → w1.cell? ⟨b, o, none⟩ = W.cell? ⟨b, o, none⟩) ∧ (∀ b o, b < W.heap.size → w1.frozen? ⟨b, o, none⟩ = W.frozen? ⟨b, o, none⟩) :=
  ⟨fun b o h => hb.cell (p := ⟨b, o, none⟩) h, fun b o h => hb.frozen (p := ⟨b, o, none⟩) h⟩
def bF (c : Int) (s : ByteArray) : Int := if c < 0 ∨ 13 < c then 1 else if kg s = false then 7 else if 4096 < s.size then 3 else if c = 0 ∧ s.size ≠ 0 then 1 else 0
def mi (l : List UInt8) (s : ByteArray) : ByteArray := ⟨l.toArray⟩ ++ s
def GK (c : Int) (s : ByteArray) : ByteArray := if bF c s = 0 then mi (aM c.toNat) s else ⟨#[]⟩
structure II where
  code : Int
  text : ByteArray
  err : Int
def gj (s : ByteArray) (u n : Nat) : II :=
  if n ≠ (aM u).length then ⟨0, ⟨#[]⟩, 5⟩ else if 13 < u then ⟨0, ⟨#[]⟩, 6⟩
  else if bF u (s.extract n s.size) = 0 then ⟨u, s.extract n s.size, 0⟩ else ⟨0, ⟨#[]⟩, bF u (s.extract n s.size)⟩
def aV (s : ByteArray) : II := if (cx s).2.2 = 0 then gj s (cx s).1 (cx s).2.1 else ⟨0, ⟨#[]⟩, (cx s).2.2⟩
theorem gB {s : ByteArray} : (s.size = 0) ↔ s.toList = [] := by
  rw [ByteArray.toList_eq, ← List.length_eq_zero_iff, Array.length_toList]; exact Iff.rfl
theorem oL {s : ByteArray} (h : s.size = 0) : s.toList.isEmpty = true ∧ s.toList = [] := ⟨by rw [gB.1 h]; rfl, gB.1 h⟩
theorem mW {s : ByteArray} (h : s.size ≠ 0) : s.toList.isEmpty = false ∧ ¬ s.toList = [] := by
  have : ¬ s.toList = [] := fun e => h (gB.2 e)
  exact ⟨by cases hh : s.toList with | nil => exact absurd hh this | cons => rfl, this⟩
set_option maxHeartbeats 1000000 in
theorem kR (c : Int) (s : ByteArray) (w : World) (hs : s.size ≤ 4611686018427387900) :
    Calls Tryz.prog 75 #[.agg #[.int .i64 c, .string s]] w fun e w' => e = .returned (.int .i64 (bF c s)) ∧ Below w.heap.size w w' := by
  by_cases h1 : c < 0
  · have HR := Lib.hid (show bF c s = 1 by unfold bF; rw [if_pos (.inl h1)])
    go_enter Tryz.func75, Tryz.ntmps75
    go_wp2_with fail
    go_ret
    exact ⟨dW (by rw [HR.out]), (Below.refl _ _).alloc (Nat.le_refl _) _⟩
  by_cases h2 : 13 < c
  · have HR := Lib.hid (show bF c s = 1 by unfold bF; rw [if_pos (.inr h2)])
    go_enter Tryz.func75, Tryz.ntmps75
    go_wp2_with fail
    go_ret
    exact ⟨dW (by rw [HR.out]), (Below.refl _ _).alloc (Nat.le_refl _) _⟩
  have hV := fun w => mh s w hs
  cases hv : kg s with
  | false =>
    rw [hv] at hV
    have HV := Lib.hid hV
    have HR := Lib.hid (show bF c s = 7 by unfold bF; rw [if_neg (by omega), if_pos hv])
    clear hv hV
    go_enter Tryz.func75, Tryz.ntmps75
    go_wp2_with fail
    refine (HV.out _).mono ?_; rintro e w1 ⟨rfl, hb⟩
    obtain ⟨hcb, hfb⟩ := tP hb
    go_wp2_with fail
    go_ret
    exact ⟨dW (by rw [HR.out]), ((Below.refl _ _).alloc (Nat.le_refl _) _).trans (hb.mono (by simp))⟩
  | true =>
    rw [hv] at hV
    have HV := Lib.hid hV
    by_cases h3 : 4096 < s.size
    · have HR := Lib.hid (show bF c s = 3 by unfold bF; rw [if_neg (by omega), if_neg (by rw [hv]; simp), if_pos h3])
      clear hv hV
      go_enter Tryz.func75, Tryz.ntmps75
      go_wp2_with fail
      refine (HV.out _).mono ?_; rintro e w1 ⟨rfl, hb⟩
      obtain ⟨hcb, hfb⟩ := tP hb
      go_wp2_with fail
      go_ret
      exact ⟨dW (by rw [HR.out]), ((Below.refl _ _).alloc (Nat.le_refl _) _).trans (hb.mono (by simp))⟩
    · by_cases h4 : c = 0
      · subst h4
        by_cases h5 : s.size = 0
        · obtain ⟨e1, e2⟩ := oL h5
          have HR := Lib.hid (show bF 0 s = 0 by unfold bF; rw [if_neg (by omega), if_neg (by rw [hv]; simp), if_neg h3, if_neg (by omega)])
          clear hv hV h5
          go_enter Tryz.func75, Tryz.ntmps75
          go_wp2_with fail
          refine (HV.out _).mono ?_; rintro e w1 ⟨rfl, hb⟩
          obtain ⟨hcb, hfb⟩ := tP hb
          go_wp2_with fail
          go_ret
          exact ⟨dW (by rw [HR.out]), ((Below.refl _ _).alloc (Nat.le_refl _) _).trans (hb.mono (by simp))⟩
        · obtain ⟨e1, e2⟩ := mW h5
          have HR := Lib.hid (show bF 0 s = 1 by unfold bF; rw [if_neg (by omega), if_neg (by rw [hv]; simp), if_neg h3, if_pos ⟨rfl, h5⟩])
          clear hv hV h5
          go_enter Tryz.func75, Tryz.ntmps75
          go_wp2_with fail
          refine (HV.out _).mono ?_; rintro e w1 ⟨rfl, hb⟩
          obtain ⟨hcb, hfb⟩ := tP hb
          go_wp2_with fail
          go_ret
          exact ⟨dW (by rw [HR.out]), ((Below.refl _ _).alloc (Nat.le_refl _) _).trans (hb.mono (by simp))⟩
      · have hq := (cj h4).1
        have HR := Lib.hid (show bF c s = 0 by unfold bF; rw [if_neg (by omega), if_neg (by rw [hv]; simp), if_neg h3, if_neg (by omega)])
        clear hv hV h4
        go_enter Tryz.func75, Tryz.ntmps75
        go_wp2_with fail
        refine (HV.out _).mono ?_; rintro e w1 ⟨rfl, hb⟩
        obtain ⟨hcb, hfb⟩ := tP hb
        go_wp2_with fail
        go_ret
        exact ⟨dW (by rw [HR.out]), ((Below.refl _ _).alloc (Nat.le_refl _) _).trans (hb.mono (by simp))⟩
theorem AW (f : FuncId) (c d : Int) (s : ByteArray) (h : bF c s = d) (hc : ∀ w, Calls Tryz.prog f #[.agg #[.int .i64 c, .string s]] w fun e w' => e = .returned (.int .i64 (bF c s)) ∧ Below w.heap.size w w') (w : World) :
    Calls Tryz.prog f #[.agg #[.int .i64 c, .string s]] w fun e w' => e = .returned (.int .i64 d) ∧ Below w.heap.size w w' := by subst h; exact hc w
end Go.Proofs.YtklcfjlmlbnkaaaGreatDoor
namespace Go.Proofs.YtklcfjlmlbnkaaaGreatDoor
open Go
def emptyB : ByteArray := ⟨#[]⟩
structure Hy where
  num : Nat
  rest : ByteArray
  err : Int
def ez (s : ByteArray) (e : Int) : Hy := if e = 0 then ⟨(cx s).1, s.extract (cx s).2.1 s.size, (cx s).2.2⟩ else ⟨0, s, e⟩
structure GL where
  text : ByteArray
  rest : ByteArray
  err : Int
def mX (t : Hy) : GL := if t.err = 0 then (if t.rest.size < t.num then ⟨⟨#[]⟩, t.rest, 4⟩ else ⟨t.rest.extract 0 t.num, t.rest.extract t.num t.rest.size, 0⟩) else ⟨⟨#[]⟩, t.rest, t.err⟩
def de (s : ByteArray) (e : Int) : GL := mX (ez s e)
structure GM where
  metas : List (ByteArray × ByteArray)
  rest : ByteArray
  err : Int
def iJ : Nat → ByteArray → Int → List (ByteArray × ByteArray) → GM
  | 0, s, e, acc => ⟨acc, s, e⟩
  | k + 1, s, e, acc => if e = 0 then iJ k (de (de s e).rest (de s e).err).rest (de (de s e).rest (de s e).err).err (acc ++ [((de s e).text, (de (de s e).rest (de s e).err).text)]) else ⟨acc, s, e⟩
structure jU where
  svc : ByteArray
  mth : ByteArray
  late : Int
  metas : List (ByteArray × ByteArray)
def mY : jU := ⟨⟨#[]⟩, ⟨#[]⟩, 0, []⟩
def mj (c : UInt8) : Bool := decide ((97 ≤ c.toNat ∧ c.toNat ≤ 122) ∨ (48 ≤ c.toNat ∧ c.toNat ≤ 57) ∨ c.toNat = 45)
def jK (l : List UInt8) : Bool := decide (1 ≤ l.length ∧ l.length ≤ 40) && l.all mj
def gT : Nat → ByteArray → List (ByteArray × ByteArray) → Int
  | _, _, [] => 0
  | i, p, (k, v) :: r => if jK k.data.toList = false then 8 else if 200 < v.size then 3 else if kg v = false then 7 else if 0 < i ∧ Op.bytesLess p.toList k.toList = false then 11 else gT (i + 1) k r
def bQ (h : jU) : Int :=
  if fP h.svc.data.toList = false ∨ bV h.mth.data.toList = false then 8 else if h.late < 0 ∨ 1099511627776 < h.late then 6 else if 16 < h.metas.length then 3 else gT 0 ⟨#[]⟩ h.metas
def aZ (s : ByteArray) : List UInt8 := aM s.size ++ s.data.toList
def tQ (m : ByteArray × ByteArray) : List UInt8 := aZ m.1 ++ aZ m.2
def ko (h : jU) : List UInt8 := aZ h.svc ++ aZ h.mth ++ aM h.late.toNat ++ aM h.metas.length ++ h.metas.flatMap tQ
structure I5 where
  bytes : List UInt8
  err : Int
def jL (h : jU) : I5 := if bQ h = 0 then ⟨ko h, 0⟩ else ⟨[], bQ h⟩
structure Fl where
  head : jU
  err : Int
def qG (data : ByteArray) (h : jU) (late : Nat) (m : GM) : Fl :=
  if m.err ≠ 0 then ⟨mY, m.err⟩ else if m.rest.size ≠ 0 then ⟨mY, 18⟩ else if 1099511627776 < late then ⟨mY, 6⟩
  else if bQ { h with late := late, metas := m.metas } ≠ 0 then ⟨mY, bQ { h with late := late, metas := m.metas }⟩
  else if ko { h with late := late, metas := m.metas } ≠ data.data.toList then ⟨mY, 5⟩ else ⟨{ h with late := late, metas := m.metas }, 0⟩
def rT (n : Nat) (s : ByteArray) (e : Int) : GM := if e = 0 then (if 16 < n then ⟨[], s, 3⟩ else iJ n s 0 []) else ⟨[], s, e⟩
def cM (data : ByteArray) : Fl :=
  let a := de data 0
  let b := de a.rest a.err
  let c := ez b.rest b.err
  let d := ez c.rest c.err
  qG data ⟨a.text, b.text, 0, []⟩ c.num (rT d.num d.rest d.err)
structure FrV where
  kind : Int
  strm : Int
  num : Int
  data : ByteArray
def eA (k s : Int) : Bool := if k = 7 ∨ k = 8 ∨ k = 9 then decide (s = 0) else if k = 6 then decide (0 ≤ s) else decide (1 ≤ s)
def fQ (k n : Int) : Bool := if k = 1 then decide (1 ≤ n ∧ n ≤ 4) else if k = 5 then decide (1 ≤ n ∧ n ≤ 13) else if k = 6 then decide (1 ≤ n ∧ n ≤ 1048576) else if k = 7 ∨ k = 8 then decide (0 ≤ n ∧ n ≤ 4294967295) else if k = 9 then decide (0 ≤ n ∧ n ≤ 2147483647) else decide (n = 0)
def ir (k : Int) (d : ByteArray) : Bool := decide (k = 1 ∨ k = 2 ∨ k = 4) || decide (d.size = 0)
def ay (f : FrV) : Int :=
  if f.kind < 1 ∨ 9 < f.kind ∨ eA f.kind f.strm = false ∨ fQ f.kind f.num = false ∨ ir f.kind f.data = false then 1
  else if 16384 < f.data.size ∨ 2147483647 < f.strm then 3
  else if f.kind = 1 then (cM f.data).err else if f.kind = 4 then (aV f.data).err else 0
theorem tT : ∀ a b : List UInt8, (Op.bytesLess b a || b == a) = !(Op.bytesLess a b)
  | [], [] => rfl
  | [], _ :: _ => rfl
  | _ :: _, [] => rfl
  | x :: a, y :: b => by
    have ih := tT a b
    simp only [Op.bytesLess]
    have hc : ((y :: b) == (x :: a)) = ((y == x) && (b == a)) := rfl
    rw [hc]
    rcases Nat.lt_trichotomy x.toNat y.toNat with h | h | h
    · have h1 : x < y := UInt8.lt_iff_toNat_lt.2 h
      have h2 : ¬ y < x := fun e => by have := UInt8.lt_iff_toNat_lt.1 e; omega
      have h3 : ¬ y = x := fun e => by rw [e] at h; omega
      simp [h1, h2, h3]
    · have h3 : x = y := UInt8.toNat_inj.1 h
      subst h3
      have h2 : ¬ x < x := fun e => by have := UInt8.lt_iff_toNat_lt.1 e; omega
      simp [h2, ih]
    · have h1 : y < x := UInt8.lt_iff_toNat_lt.2 h
      have h2 : ¬ x < y := fun e => by have := UInt8.lt_iff_toNat_lt.1 e; omega
      have h3 : ¬ x = y := fun e => by rw [e] at h; omega
      simp [h1, h2, h3]
def iu (ms : List (ByteArray × ByteArray)) (k : Nat) : ByteArray := (ms.getD (k - 1) (⟨#[]⟩, ⟨#[]⟩)).1
theorem vW {ms : List (ByteArray × ByteArray)} {k : Nat} (h : k < ms.length) : iu ms (k + 1) = ms[k].1 := by
  unfold iu; rw [show k + 1 - 1 = k by omega, List.getD_eq_getElem?_getD, List.getElem?_eq_getElem h]; rfl
theorem vX {ms : List (ByteArray × ByteArray)} {k : Nat} (h : k < ms.length) (p : ByteArray) : gT k p (ms.drop k) =
    if jK ms[k].1.data.toList = false then 8 else if 200 < ms[k].2.size then 3 else if kg ms[k].2 = false then 7 else if 0 < k ∧ Op.bytesLess p.toList ms[k].1.toList = false then 11 else gT (k + 1) (iu ms (k + 1)) (ms.drop (k + 1)) := by
  rw [vW h, List.drop_eq_getElem_cons h]
  rfl
theorem AX {l : List UInt8} {k : Nat} (h : k < l.length) (hg : mj l[k] = false) : jK l = false := by
  unfold jK
  have : l.all mj = false := by rw [List.all_eq_false]; exact ⟨l[k], List.getElem_mem h, by simp [hg]⟩
  rw [this, Bool.and_false]
theorem AY {l : List UInt8} (h1 : 1 ≤ l.length ∧ l.length ≤ 40) (hg : ∀ k (h : k < l.length), mj l[k] = true) : jK l = true := by
  unfold jK
  rw [decide_eq_true h1, Bool.true_and, List.all_eq_true]
  intro x hx
  obtain ⟨k, hk, rfl⟩ := List.mem_iff_getElem.1 hx
  exact hg k hk
theorem yT {l : List UInt8} (h : ¬ (1 ≤ l.length ∧ l.length ≤ 40)) : jK l = false := by unfold jK; rw [decide_eq_false h]; rfl
theorem vY (c : UInt8) : (mj c = true ∧ (97 ≤ c.toNat ∧ c.toNat ≤ 122)) ∨ (mj c = true ∧ 48 ≤ c.toNat ∧ c.toNat ≤ 57) ∨ (mj c = true ∧ c.toNat = 45) ∨ (mj c = false ∧ (c.toNat < 97 ∨ 122 < c.toNat) ∧ (c.toNat < 48 ∨ 57 < c.toNat) ∧ c.toNat ≠ 45) := by
  unfold mj; simp only [decide_eq_true_eq, decide_eq_false_iff_not]; omega
end Go.Proofs.YtklcfjlmlbnkaaaGreatDoor
