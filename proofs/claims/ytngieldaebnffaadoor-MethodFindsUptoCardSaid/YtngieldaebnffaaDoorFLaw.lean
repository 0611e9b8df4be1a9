/- What a path finds: plain. -/
import Derived.Test.YtngieldaebnffaaDoorFind2
namespace Go.Proofs.YtngieldaebnffaaDoor.Y
open Go.RowKit
theorem less_transF : ∀ a b c : List UInt8, Op.bytesLess a b = true → Op.bytesLess b c = true → Op.bytesLess a c = true
  | [], [], _, h, _ => by simp [Op.bytesLess] at h
  | [], _ :: _, [], _, h => by simp [Op.bytesLess] at h
  | [], _ :: _, _ :: _, _, _ => rfl
  | _ :: _, [], _, h, _ => by simp [Op.bytesLess] at h
  | _ :: _, _ :: _, [], _, h => by simp [Op.bytesLess] at h
  | x :: a, y :: b, z :: c, h1, h2 => by
    have ih := less_transF a b c
    simp only [Op.bytesLess] at h1 h2 ⊢
    have e1 : (x < y) = (x.toNat < y.toNat) := rfl
    have e2 : (y < z) = (y.toNat < z.toNat) := rfl
    have e3 : (x < z) = (x.toNat < z.toNat) := rfl
    have e4 : (y < x) = (y.toNat < x.toNat) := rfl
    have e5 : (z < y) = (z.toNat < y.toNat) := rfl
    have e6 : (z < x) = (z.toNat < x.toNat) := rfl
    have f1 : (x = y) = (x.toNat = y.toNat) := by rw [UInt8.toNat_inj]
    have f2 : (y = z) = (y.toNat = z.toNat) := by rw [UInt8.toNat_inj]
    have f3 : (x = z) = (x.toNat = z.toNat) := by rw [UInt8.toNat_inj]
    grind
theorem less_irr : ∀ a : List UInt8, Op.bytesLess a a = false
  | [] => rfl
  | x :: a => by
    have ih := less_irr a
    have e : (x < x) = (x.toNat < x.toNat) := rfl
    simp only [Op.bytesLess]
    simp [ih, e]
def lsB (a b : ByteArray) : Bool := Op.bytesLess a.toList b.toList
theorem lsB_ne {a b : ByteArray} (h : lsB a b = true) : (a.toList == b.toList) = false := by
  cases hh : (a.toList == b.toList) with
  | false => rfl
  | true =>
    unfold lsB at h
    rw [eq_of_beq hh, less_irr] at h; cases h
/-- ascending before p. -/
def Asc {α : Type} (f : α → ByteArray) (l : List α) (p : Nat) : Prop := ∀ (j k : Nat) (u v : α), j < k → k < p → l[j]? = some u → l[k]? = some v → lsB (f u) (f v) = true
theorem Asc.zero {α : Type} {f : α → ByteArray} {l : List α} : Asc f l 0 := fun _ _ _ _ _ h => absurd h (Nat.not_lt_zero _)
theorem Asc.one {α : Type} {f : α → ByteArray} {l : List α} : Asc f l 1 := fun j k _ _ h1 h2 => by omega
theorem Asc.succ {α : Type} {f : α → ByteArray} {l : List α} {i : Nat} {u v : α} (h : Asc f l (i + 1)) (hu : l[i]? = some u) (hv : l[i + 1]? = some v) (hl : lsB (f u) (f v) = true) : Asc f l (i + 2) := fun j k a b h1 h2 ha hb => by
  by_cases hk : k < i + 1
  · exact h j k a b h1 hk ha hb
  · obtain rfl : k = i + 1 := by omega
    obtain rfl : v = b := by rw [hv] at hb; exact Option.some.inj hb
    by_cases hj : j = i
    · subst hj
      obtain rfl : u = a := by rw [hu] at ha; exact Option.some.inj ha
      exact hl
    · exact less_transF _ _ _ (h j i a u (by omega) (by omega) ha hu) hl
theorem find_asc {α : Type} {f : α → ByteArray} {l : List α} {p : Nat} {v : α} (h : Asc f l (p + 1)) (hv : l[p]? = some v) : l.find? (fun u => (f u).toList == (f v).toList) = some v := by
  rw [List.find?_eq_some_iff_getElem]
  obtain ⟨hp, he⟩ := List.getElem?_eq_some_iff.1 hv
  refine ⟨by simp, p, hp, he, fun j hj => ?_⟩
  have := lsB_ne (h j p l[j] v hj (by omega) (List.getElem?_eq_getElem (by omega)) hv)
  simp [this]
theorem part_no {l : List UInt8} (h : partOk l = true) : ∀ c ∈ l, c ≠ 47 := by
  unfold partOk at h
  simp only [Bool.and_eq_true, List.all_eq_true] at h
  intro c hc he
  have := h.2 c hc
  rw [he] at this
  revert this; decide
theorem dot_mem : ∀ {l : List UInt8} {c : UInt8}, c ∈ l → c ≠ 46 → ∃ p ∈ dotP l, c ∈ p
  | x :: r, c, h, hc => by
    unfold dotP
    by_cases hx : x = 46
    · rw [if_pos hx]
      rcases List.mem_cons.1 h with rfl | h
      · exact absurd hx hc
      · obtain ⟨p, hp, hm⟩ := dot_mem h hc
        exact ⟨p, List.mem_cons_of_mem _ hp, hm⟩
    · rw [if_neg hx]
      cases hd : dotP r with
      | nil => exact absurd hd (dotP_ne r)
      | cons q qs =>
        rcases List.mem_cons.1 h with rfl | h
        · exact ⟨_, List.mem_cons_self, List.mem_cons_self⟩
        · obtain ⟨p, hp, hm⟩ := dot_mem h hc
          rw [hd] at hp
          rcases List.mem_cons.1 hp with rfl | hp
          · exact ⟨_, List.mem_cons_self, List.mem_cons_of_mem _ hm⟩
          · exact ⟨p, List.mem_cons_of_mem _ hp, hm⟩
theorem full_no {l : List UInt8} (h : fullOk l = true) : ∀ c ∈ l, c ≠ 47 := by
  unfold fullOk at h
  simp only [Bool.and_eq_true, List.all_eq_true] at h
  intro c hc he
  obtain ⟨p, hp, hm⟩ := dot_mem hc (by rw [he]; decide)
  exact part_no (h.2 p hp) c hm he
theorem full_len {s : ByteArray} (h : fullOk s.data.toList = true) : s.size ≤ 120 := by
  unfold fullOk at h
  simp only [Bool.and_eq_true, decide_eq_true_eq, lszF] at h
  exact h.1
theorem part_len {s : ByteArray} (h : partOk s.data.toList = true) : s.size ≤ 40 := by
  unfold partOk at h
  simp only [Bool.and_eq_true, decide_eq_true_eq, lszF] at h
  exact h.1.1.2
def pathS (a b : ByteArray) : ByteArray := a ++ ⟨#[47]⟩ ++ b
theorem path_list (a b : ByteArray) : (pathS a b).data.toList = a.data.toList ++ 47 :: b.data.toList := by
  unfold pathS
  simp [ByteArray.data_append]
theorem path_size (a b : ByteArray) : (pathS a b).size = a.size + 1 + b.size := by
  rw [← lszF, path_list, List.length_append, List.length_cons, lszF, lszF]; omega
theorem path_sl {a b : ByteArray} (h : ∀ c ∈ a.data.toList, c ≠ 47) : slI (pathS a b) = a.size := by
  refine ib_eq ?_ fun k hk => ?_
  · rw [path_list, List.getElem?_append_right (by rw [lszF]; exact Nat.le_refl _), lszF, Nat.sub_self]; rfl
  · rw [path_list, List.getElem?_append_left (by rw [lszF]; exact hk)]
    intro hc
    exact h 47 (List.mem_of_getElem? hc) rfl
theorem path_cut {a b : ByteArray} (h : ∀ c ∈ a.data.toList, c ≠ 47) : cO (pathS a b) = true ∧ cA (pathS a b) = a ∧ cB (pathS a b) = b := by
  have hs := path_sl (b := b) h
  rcases cut_cases (pathS a b) with ⟨h1, _⟩ | ⟨k, h1, hk, h2, h3, h4⟩
  · omega
  · obtain rfl : k = a.size := by omega
    refine ⟨h2, ?_, ?_⟩
    · rw [h3]
      refine ByteArray.ext (Array.ext' ?_)
      rw [ByteArray.data_extract, Array.toList_extract, List.extract_eq_take_drop, path_list, List.drop_zero, Nat.sub_zero, ← lszF a, List.take_left]
    · rw [h4]
      refine ByteArray.ext (Array.ext' ?_)
      rw [ByteArray.data_extract, Array.toList_extract, List.extract_eq_take_drop, List.take_of_length_le (by rw [List.length_drop, lszF]; exact Nat.le_refl _), path_list, ← lszF a, List.drop_append, List.drop_eq_nil_of_le (by omega)]
      simp
theorem path_hit {l : List SV} {i k : Nat} {v : SV} {m : MV} (hv : l[i]? = some v) (hm : v.ms[k]? = some m) (hf : fullOk v.nm.data.toList = true) (hp : partOk m.nm.data.toList = true) (h1 : Asc SV.nm l (i + 1)) (h2 : Asc MV.nm v.ms (k + 1)) :
    fo l (pathS v.nm m.nm) = some m ∧ fe l (pathS v.nm m.nm) = 0 := by
  obtain ⟨e1, e2, e3⟩ := path_cut (b := m.nm) (full_no hf)
  have hok : okP (pathS v.nm m.nm) = true := by unfold okP; rw [e1, e2, e3, hf, hp]; rfl
  have hs : fS v.nm l = some v := find_asc h1 hv
  have hmm : methO l (pathS v.nm m.nm) = some m := by
    unfold methO
    rw [if_pos e1, e2, e3, hs]
    exact find_asc h2 hm
  unfold fo fe
  rw [if_pos hok, if_pos hok, hmm]
  exact ⟨rfl, rfl⟩
theorem find_hit (xm xe x : Option Addr) (nm0 cm ne0 ce cap : Nat) (l : List SV) (path : ByteArray) (m : MV) (w : World) (hS : Sch w x l) (hp : path.size < 4294967281) (hg : MLen w) (h : fo l path = some m ∧ fe l path = 0) : Calls Tryd.prog 8 #[.agg #[.slice xm nm0 cm, .slice xe ne0 ce, .slice x l.length cap], .string path] w fun e w' => e = .returned (.tuple #[.agg #[.string (m).nm, .string (m).si, .string (m).so, .int .i64 (m).sh, .slice (m).x (m).ns.length (m).cap], .int .i64 0]) ∧ Below w.heap.size w w' := by
  have hh := find43_any xm xe x nm0 cm ne0 ce cap l path w hS hp hg
  rw [h.1, h.2] at hh
  exact hh
end Go.Proofs.YtngieldaebnffaaDoor.Y
