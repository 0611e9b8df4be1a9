/- Texts of this claim merged into one: Inv, Inv2, Inv3, Inv4. -/
import Derived.Test.YtmdkfbmpenohiaaDoorBunCA
/- What every step of a client keeps: plain laws of layer 53. -/
namespace Go.Proofs.YtmdkfbmpenohiaaDoor.Y
open Go.RowKit
/-- a call of the package. -/
structure OpD where
  kd : Int
  id : Int
  n : Int
  now : Int
  q : QR
  msg : ByteArray
  cd : Int
  tx : ByteArray
  safe : Bool
/-- what it returns besides the client. -/
structure SRet where
  e : Int
  id : Int
  qs : List QR
  ids : List Int
def stepL (c : CL) (o : OpD) : CL × SRet :=
  if o.kd = 0 then ((callL c o.now o.q).1, ⟨(callL c o.now o.q).2.2, (callL c o.now o.q).2.1, [], []⟩)
  else if o.kd = 1 then ((startL c o.now).1, ⟨0, 0, (startL c o.now).2, []⟩)
  else if o.kd = 2 then ((sentL c o.id o.n).1, ⟨(sentL c o.id o.n).2, 0, [], []⟩)
  else if o.kd = 3 then ((recvL c o.id o.msg).1, ⟨(recvL c o.id o.msg).2, 0, [], []⟩)
  else if o.kd = 4 then ((endC c o.now o.id o.cd o.tx o.safe).1, ⟨(endC c o.now o.id o.cd o.tx o.safe).2, 0, [], []⟩)
  else if o.kd = 5 then ((cancL c o.now o.id).1, ⟨(cancL c o.now o.id).2, 0, [], []⟩)
  else if o.kd = 6 then ((expiL c o.now).1, ⟨0, 0, [], (expiL c o.now).2⟩)
  else (c, ⟨0, 0, [], []⟩)
def ansL (sh : Int) (n : Nat) : Bool := decide (c4 sh < 0) || decide ((n : Int) ≤ c4 sh)
def isN (bs : List BV) (s : ByteArray) : Prop := ∃ b ∈ bs, b.nm = s
/-- a call that a client may have. -/
structure VQ (ra : Int) (bs : List BV) (q : QR) : Prop where
  hd : headE q.hd = 0
  sh : isS q.sh = true
  pm : permL q.mg.length (c1 q.sh) (c2 q.sh) = true
  lg : longL q.mg = false
  la : longL q.an = false
  ans : ansL q.sh q.an.length = true
  att : 0 ≤ q.att ∧ q.att ≤ ra
  st : 0 ≤ q.st ∧ q.st ≤ 2147483647
  nx : 0 ≤ q.nx ∧ q.nx ≤ 1099511627776
  idle : q.bk.size = 0 → q.st = 0
  busy : q.bk.size ≠ 0 → isN bs q.bk ∧ 1 ≤ q.att ∧ q.dn = false
  over : q.dn = true → checkS q.cd q.tx = 0
  yet : q.dn = false → q.cd = 0 ∧ q.tx.size = 0
  rest : q.dn = false → q.bk.size = 0 → q.an.length = 0 ∧ q.att < ra
structure VC (c : CL) : Prop where
  cb : chkB c.bs = 0
  bl : c.bs ≠ []
  re : rchk c.ra c.rb c.rc c.rk = 0
  bu : bchk c.tk c.mo c.gn = 0
  nx : 1 ≤ c.nx ∧ c.nx ≤ 2147483648
  ac : (actL c.qs).length ≤ 64
  lo : ∀ q ∈ c.qs, 1 ≤ q.id ∧ q.id < c.nx
  ord : c.qs.Pairwise (fun a b => a.id < b.id)
  qs : ∀ q ∈ c.qs, VQ c.ra c.bs q
/-! small facts -/
theorem clk_rng (n : Int) : 0 ≤ clk n ∧ clk n ≤ 1099511627776 := by unfold clk bndI; omega
theorem beB_eq {a b : ByteArray} : beB a b = true ↔ a = b := by
  unfold beB
  rw [beq_iff_eq, ByteArray.toList_eq, ByteArray.toList_eq]
  exact ⟨fun h => ByteArray.ext (Array.ext' h), fun h => by rw [h]⟩
theorem size0 {s : ByteArray} : s.size = 0 ↔ s = emptyB := by
  constructor
  · intro h
    exact ByteArray.ext (Array.eq_empty_of_size_eq_zero h)
  · rintro rfl; rfl
/-! the backends -/
theorem modB_nm {f : BV → BV} (hf : ∀ b, (f b).nm = b.nm) : ∀ (l : List BV) (k : Nat), (modB f l k).map (·.nm) = l.map (·.nm)
  | [], _ => rfl
  | b :: r, 0 => by simp [modB, hf]
  | b :: r, k + 1 => by simp [modB, modB_nm hf r k]
theorem isN_map {bs : List BV} {s : ByteArray} : isN bs s ↔ s ∈ bs.map (·.nm) := by
  unfold isN; rw [List.mem_map]
theorem isN_of {a b : List BV} (h : a.map (·.nm) = b.map (·.nm)) {s : ByteArray} : isN a s ↔ isN b s := by rw [isN_map, isN_map, h]
theorem begB_nm (b : BV) : (begB b).nm = b.nm := rfl
theorem endB_nm (code now : Int) (b : BV) : (endB code now b).nm = b.nm := by
  unfold endB
  dsimp only
  split
  · split <;> rfl
  · split <;> rfl
def lateN (p : Option ByteArray) (b : BV) : Bool := match p with | some x => (Op.bytesLess b.nm.toList x.toList || b.nm.toList == x.toList) | none => false
theorem chkGo_inv {p : Option ByteArray} {b : BV} {r : List BV} (h : chkGo p (b :: r) = 0) : nmOk b.nm = true ∧ lateN p b = false ∧ bOk b = true ∧ chkGo (some b.nm) r = 0 := by
  have h0 : (if nmOk b.nm = false then 8 else if lateN p b = true then 11 else if bOk b = false then 1 else chkGo (some b.nm) r) = (0 : Int) := by rw [chkGo_cons] at h; exact h
  by_cases h1 : nmOk b.nm = false
  · rw [if_pos h1] at h0; cases h0
  · rw [if_neg h1] at h0
    by_cases h2 : lateN p b = true
    · rw [if_pos h2] at h0; cases h0
    · rw [if_neg h2] at h0
      by_cases h3 : bOk b = false
      · rw [if_pos h3] at h0; cases h0
      · rw [if_neg h3] at h0
        exact ⟨by simpa using h1, by simpa using h2, by simpa using h3, h0⟩
theorem chkGo_mk {p : Option ByteArray} {b : BV} {r : List BV} (h1 : nmOk b.nm = true) (h2 : lateN p b = false) (h3 : bOk b = true) (h4 : chkGo (some b.nm) r = 0) : chkGo p (b :: r) = 0 := by
  rw [chkGo_cons]
  show (if nmOk b.nm = false then 8 else if lateN p b = true then 11 else if bOk b = false then 1 else chkGo (some b.nm) r) = (0 : Int)
  rw [h1, h2, h3, h4]
  rfl
theorem chkGo_map {f : BV → BV} (hf : ∀ b, (f b).nm = b.nm) (hk : ∀ b, bOk b = true → bOk (f b) = true) : ∀ (l : List BV) (k : Nat) (p : Option ByteArray), chkGo p l = 0 → chkGo p (modB f l k) = 0
  | [], _, _, h => h
  | b :: r, k, p, h => by
    obtain ⟨h1, h2, h3, h4⟩ := chkGo_inv h
    cases k with
    | zero => exact chkGo_mk (by rw [hf]; exact h1) (by unfold lateN at h2 ⊢; rw [hf]; exact h2) (hk b h3) (by rw [hf]; exact h4)
    | succ k => exact chkGo_mk h1 h2 h3 (chkGo_map hf hk r k _ h4)
theorem chkB_map {f : BV → BV} (hf : ∀ b, (f b).nm = b.nm) (hk : ∀ b, bOk b = true → bOk (f b) = true) {l : List BV} (k : Nat) (h : chkB l = 0) : chkB (modB f l k) = 0 := by
  unfold chkB at h ⊢
  rw [modB_len]
  split at h
  · cases h
  · rename_i h1
    rw [if_neg h1]
    exact chkGo_map hf hk l k _ h
theorem chkGo_ok : ∀ (l : List BV) (p : Option ByteArray), chkGo p l = 0 → ∀ b ∈ l, bOk b = true ∧ nmOk b.nm = true
  | [], _, _ => fun _ h => by cases h
  | a :: r, p, h => fun b hb => by
    obtain ⟨h1, h2, h3, h4⟩ := chkGo_inv h
    rcases List.mem_cons.1 hb with rfl | hb
    · exact ⟨h3, h1⟩
    · exact chkGo_ok r _ h4 b hb
theorem chkB_ok {l : List BV} (h : chkB l = 0) : l.length ≤ 8 ∧ ∀ b ∈ l, bOk b = true ∧ nmOk b.nm = true := by
  unfold chkB at h
  split at h
  · cases h
  · exact ⟨by omega, chkGo_ok l _ h⟩
theorem nmOk_size {s : ByteArray} (h : nmOk s = true) : s.size ≠ 0 := by
  unfold nmOk at h
  simp at h
  omega
theorem less_tr : ∀ a b c : List UInt8, Op.bytesLess a b = true → Op.bytesLess b c = true → Op.bytesLess a c = true
  | [], [], _, h, _ => by simp [Op.bytesLess] at h
  | [], _ :: _, [], _, h => by simp [Op.bytesLess] at h
  | [], _ :: _, _ :: _, _, _ => rfl
  | _ :: _, [], _, h, _ => by simp [Op.bytesLess] at h
  | _ :: _, _ :: _, [], _, h => by simp [Op.bytesLess] at h
  | x :: a, y :: b, z :: c, h1, h2 => by
    have ih := less_tr a b c
    simp only [Op.bytesLess] at h1 h2 ⊢
    have e1 : (x < y) = (x.toNat < y.toNat) := rfl
    have e2 : (y < z) = (y.toNat < z.toNat) := rfl
    have e3 : (x < z) = (x.toNat < z.toNat) := rfl
    have e4 : (y < x) = (y.toNat < x.toNat) := rfl
    have e5 : (z < y) = (z.toNat < y.toNat) := rfl
    have e6 : (z < x) = (z.toNat < x.toNat) := rfl
    have f1 : (x = y) = (x.toNat = y.toNat) := by rw [UInt8.toNat_inj]
    have f2 : (y = z) = (y.toNat = z.toNat) := by rw [UInt8.toNat_inj]
    have f3 : (x = z) = (x.toNat = z.toNat) := by rw [UInt8.toNat_inj]
    grind
theorem less_ir : ∀ a : List UInt8, Op.bytesLess a a = false
  | [] => rfl
  | x :: a => by
    have ih := less_ir a
    have e : (x < x) = (x.toNat < x.toNat) := rfl
    simp only [Op.bytesLess]
    simp [ih, e]
def lsN (a b : ByteArray) : Prop := Op.bytesLess a.toList b.toList = true
theorem lsN.ne {a b : ByteArray} (h : lsN a b) : a ≠ b := by
  rintro rfl
  unfold lsN at h
  rw [less_ir] at h
  cases h
/-- names ascend. -/
theorem chkGo_lt : ∀ (l : List BV) (p : Option ByteArray), chkGo p l = 0 → (∀ x, p = some x → ∀ b ∈ l, lsN x b.nm) ∧ (l.map (·.nm)).Pairwise lsN
  | [], _, _ => ⟨fun _ _ _ h => (by cases h), List.Pairwise.nil⟩
  | a :: r, p, h => by
    obtain ⟨h1, h2, h3, h9⟩ := chkGo_inv h
    obtain ⟨h4, h5⟩ := chkGo_lt r _ h9
    have h6 := h4 a.nm rfl
    have hpa : ∀ x, p = some x → lsN x a.nm := by
      rintro x rfl
      unfold lsN
      have h7 : (Op.bytesLess a.nm.toList x.toList || a.nm.toList == x.toList) = false := h2
      rw [less_not] at h7
      simpa using h7
    refine ⟨fun x hx b hb => ?_, ?_⟩
    · rcases List.mem_cons.1 hb with rfl | hb
      · exact hpa x hx
      · exact less_tr _ _ _ (hpa x hx) (h6 b hb)
    · rw [List.map_cons, List.pairwise_cons]
      refine ⟨fun s hs => ?_, h5⟩
      obtain ⟨b, hb, rfl⟩ := List.mem_map.1 hs
      exact h6 b hb
theorem chkB_pw {l : List BV} (h : chkB l = 0) : (l.map (·.nm)).Pairwise lsN := by
  unfold chkB at h
  split at h
  · cases h
  · exact (chkGo_lt l _ h).2
theorem nm_inj {l : List BV} (h : (l.map (·.nm)).Pairwise lsN) {i j : Nat} {a b : BV} (ha : l[i]? = some a) (hb : l[j]? = some b) (hn : a.nm = b.nm) : i = j := by
  rw [List.pairwise_iff_getElem] at h
  obtain ⟨hi, rfl⟩ := List.getElem?_eq_some_iff.1 ha
  obtain ⟨hj, rfl⟩ := List.getElem?_eq_some_iff.1 hb
  rcases Nat.lt_trichotomy i j with h1 | h1 | h1
  · have := h i j (by simpa using hi) (by simpa using hj) h1
    simp only [List.getElem_map] at this
    exact absurd hn this.ne
  · exact h1
  · have := h j i (by simpa using hj) (by simpa using hi) h1
    simp only [List.getElem_map] at this
    exact absurd hn.symm this.ne
theorem modB_at {f : BV → BV} : ∀ {l : List BV} {k j : Nat} {b : BV}, (modB f l k)[j]? = some b → ∃ a, l[j]? = some a ∧ b = if j = k then f a else a
  | [], _, _, _, h => by simp [modB] at h
  | a :: r, 0, 0, b, h => ⟨a, rfl, by simpa [modB] using h.symm⟩
  | a :: r, 0, j + 1, b, h => ⟨b, by simpa [modB] using h, by simp⟩
  | a :: r, k + 1, 0, b, h => ⟨a, rfl, by simpa [modB] using h.symm⟩
  | a :: r, k + 1, j + 1, b, h => by
    obtain ⟨c, h1, h2⟩ := modB_at (l := r) (k := k) (j := j) (by simpa [modB] using h)
    exact ⟨c, by simpa using h1, by simpa using h2⟩
theorem finB_some {nm : ByteArray} : ∀ {l : List BV} {k : Nat}, isN l nm → ∃ i, finB nm l k = some i
  | [], _, ⟨_, h, _⟩ => by cases h
  | a :: r, k, ⟨b, hb, hn⟩ => by
    rw [finB]
    split
    · exact ⟨_, rfl⟩
    · rename_i h1
      rcases List.mem_cons.1 hb with rfl | hb
      · exact absurd (beB_eq.2 hn) h1
      · exact finB_some ⟨b, hb, hn⟩
/-! lists of calls -/
theorem mem_mod {α : Type} {g : α → α} : ∀ {l : List α} {i : Nat} {x : α}, x ∈ l.modify i g → x ∈ l ∨ ∃ y, l[i]? = some y ∧ x = g y
  | [], i, x, h => by simp at h
  | a :: l, 0, x, h => by
    simp only [List.modify_zero_cons, List.mem_cons] at h
    rcases h with rfl | h
    · exact .inr ⟨a, rfl, rfl⟩
    · exact .inl (List.mem_cons_of_mem _ h)
  | a :: l, i + 1, x, h => by
    simp only [List.modify_succ_cons, List.mem_cons] at h
    rcases h with rfl | h
    · exact .inl (List.mem_cons_self ..)
    · rcases mem_mod h with h | ⟨y, h1, h2⟩
      · exact .inl (List.mem_cons_of_mem _ h)
      · exact .inr ⟨y, by simpa using h1, h2⟩
theorem map_mod {α β : Type} {g : α → α} {f : α → β} (hf : ∀ a, f (g a) = f a) : ∀ (l : List α) (i : Nat), (l.modify i g).map f = l.map f
  | [], _ => by simp
  | a :: l, 0 => by simp [hf]
  | a :: l, i + 1 => by simp [map_mod hf l i]
theorem count_mod {α : Type} {g : α → α} (p : α → Bool) : ∀ {l : List α} {i : Nat} {x : α}, l[i]? = some x → (l.modify i g).countP p + (if p x then 1 else 0) = l.countP p + (if p (g x) then 1 else 0)
  | [], i, x, h => by simp at h
  | a :: l, 0, x, h => by
    obtain rfl : a = x := by simpa using h
    simp only [List.modify_zero_cons, List.countP_cons]
    omega
  | a :: l, i + 1, x, h => by
    have ih := count_mod (g := g) p (l := l) (i := i) (x := x) (by simpa using h)
    simp only [List.modify_succ_cons, List.countP_cons]
    omega
theorem mod_app {α : Type} (g : α → α) : ∀ (l : List α) (x : α) (r : List α), (l ++ x :: r).modify l.length g = l ++ g x :: r
  | [], x, r => by simp
  | a :: l, x, r => by simp [mod_app g l x r]
theorem mod_mod {α : Type} (f g : α → α) : ∀ (l : List α) (i : Nat), (l.modify i f).modify i g = l.modify i (fun x => g (f x))
  | [], i => by simp
  | a :: l, 0 => by simp
  | a :: l, i + 1 => by simp [mod_mod f g l i]
theorem actL_count : ∀ l : List QR, (actL l).length = l.countP (fun q => !q.dn)
  | [] => rfl
  | q :: r => by
    have ih := actL_count r
    rw [actL, List.countP_cons]
    cases q.dn <;> simp [ih]
/-! the moves -/
def chg (c : CL) (i : Nat) (g : QR → QR) (bs : List BV) (tk : Int) : CL := { c with bs := bs, qs := c.qs.modify i g, tk := tk }
def stopB (c : CL) (q : QR) (code now : Int) : List BV := if q.bk.size = 0 then c.bs else match finB q.bk c.bs 0 with | some k => modB (endB code now) c.bs k | none => c.bs
inductive Mv : CL → Nat → List QR → CL → Prop
  | refl (c : CL) : Mv c 0 [] c
  | trans {c d e : CL} {m n : Nat} {l r : List QR} : Mv c m l d → Mv d n r e → Mv c (m + n) (l ++ r) e
  | app {c : CL} (q : QR) : VQ c.ra c.bs q → q.id = c.nx → q.bk.size = 0 → q.att = 0 → q.an.length = 0 → q.ms.length ≤ 4398046511104 → q.mg.length ≤ 8796093022208 → c.nx ≤ 2147483647 → (actL c.qs).length < 64 → Mv c 1 [] { c with qs := c.qs ++ [q], nx := c.nx + 1 }
  | snt {c : CL} {i : Nat} {q : QR} (st : Int) : c.qs[i]? = some q → q.bk.size ≠ 0 → 1 ≤ st → st ≤ 2147483647 → Mv c 0 [] (chg c i (fun q => { q with st := st }) c.bs c.tk)
  | rcv {c : CL} {i : Nat} {q : QR} (m : ByteArray) : c.qs[i]? = some q → q.bk.size ≠ 0 → m.size ≤ 16384 → ansL q.sh (q.an.length + 1) = true → Mv c 1 [] (chg c i (fun q => { q with an := q.an ++ [m] }) c.bs c.tk)
  | fin {c : CL} {i : Nat} {q : QR} (code now cd : Int) (tx : ByteArray) : c.qs[i]? = some q → q.dn = false → checkS cd tx = 0 → Mv c 0 [] (chg c i (fun q => { q with bk := emptyB, st := 0, dn := true, cd := cd, tx := tx }) (stopB c q code now) c.tk)
  | ret {c : CL} {i : Nat} {q : QR} (code now nx : Int) : c.qs[i]? = some q → q.bk.size ≠ 0 → q.an.length = 0 → q.att < c.ra → 1000 ≤ c.tk → 0 ≤ nx → nx ≤ 1099511627776 → Mv c 0 [] (chg c i (fun q => { q with bk := emptyB, st := 0, nx := nx }) (stopB c q code now) (c.tk - 1000))
  | beg {c : CL} {i k : Nat} {q : QR} {b : BV} : c.qs[i]? = some q → q.dn = false → q.bk.size = 0 → c.bs[k]? = some b → Mv c 0 [begQ c.bs k q] (chg c i (begQ c.bs k) (modB begB c.bs k) (if q.att + 1 = 1 then bfst c.tk c.mo c.gn else c.tk))
theorem stopB_nm (c : CL) (q : QR) (code now : Int) : (stopB c q code now).map (·.nm) = c.bs.map (·.nm) := by
  unfold stopB
  split
  · rfl
  · split
    · exact modB_nm (endB_nm code now) _ _
    · rfl
theorem stopB_chk {c : CL} (q : QR) (code now : Int) (h : chkB c.bs = 0) : chkB (stopB c q code now) = 0 := by
  unfold stopB
  split
  · exact h
  · split
    · exact chkB_map (endB_nm code now) (fun _ => endB_ok) _ h
    · exact h
theorem VQ.of {ra : Int} {a b : List BV} {q : QR} (h : VQ ra a q) (hn : b.map (·.nm) = a.map (·.nm)) : VQ ra b q := { h with busy := fun h1 => ⟨(isN_of hn).2 (h.busy h1).1, (h.busy h1).2⟩ }
/-- one call is changed. -/
theorem VC.one {c : CL} (h : VC c) {i : Nat} {q : QR} {g : QR → QR} {bs : List BV} {tk : Int} (hq : c.qs[i]? = some q) (hc : chkB bs = 0) (hn : bs.map (·.nm) = c.bs.map (·.nm)) (ht : bchk tk c.mo c.gn = 0) (hid : ∀ q, (g q).id = q.id) (hd : (g q).dn = false → q.dn = false) (hg : VQ c.ra c.bs (g q)) : VC (chg c i g bs tk) := by
  have hm : ((c.qs.modify i g).map (·.id)) = c.qs.map (·.id) := map_mod hid _ _
  refine ⟨hc, ?_, h.re, ht, h.nx, ?_, ?_, ?_, ?_⟩
  · intro h0
    have h1 : bs = [] := h0
    rw [h1] at hn
    exact h.bl (List.map_eq_nil_iff.1 hn.symm)
  · show (actL (c.qs.modify i g)).length ≤ 64
    have h1 := count_mod (g := g) (fun q => !q.dn) hq
    have h2 := h.ac
    rw [actL_count] at h2 ⊢
    cases hq1 : q.dn <;> cases hq2 : (g q).dn <;> simp [hq1, hq2] at h1 hd <;> omega
  · intro x hx
    have h1 : x.id ∈ (c.qs.modify i g).map (·.id) := List.mem_map_of_mem hx
    rw [hm] at h1
    obtain ⟨y, hy, hxy⟩ := List.mem_map.1 h1
    rw [← hxy]
    exact h.lo y hy
  · have h1 := h.ord
    show (c.qs.modify i g).Pairwise _
    have h2 : ((c.qs.modify i g).map (·.id)).Pairwise (· < ·) := by rw [hm]; exact List.pairwise_map.2 h1
    exact List.pairwise_map.1 h2
  · intro x hx
    rcases mem_mod hx with hx | ⟨y, hy, rfl⟩
    · exact (h.qs x hx).of hn
    · rw [hq] at hy
      obtain rfl := Option.some.inj hy
      exact hg.of hn
theorem mem_at {l : List QR} {i : Nat} {q : QR} (h : l[i]? = some q) : q ∈ l := List.mem_of_getElem? h
theorem bfst_ok {t m gn : Int} (h : bchk t m gn = 0) : bchk (bfst t m gn) m gn = 0 ∧ bfst t m gn ≤ t + gn := by
  obtain ⟨h1, h2, h3, h4, h5⟩ := bchk_rng h
  unfold bfst
  rw [if_pos h]
  unfold bchk
  refine ⟨?_, by omega⟩
  rw [if_neg (by omega)]
theorem longL_app (a b : List ByteArray) : longL (a ++ b) = (longL a || longL b) := by unfold longL; rw [List.any_append]
theorem Mv.ok {c d : CL} {n : Nat} {l : List QR} (h : Mv c n l d) : VC c → VC d := by
  induction h with
  | refl => exact id
  | trans _ _ h1 h2 => exact fun h => h2 (h1 h)
  | @app c q hv hi hb ha hn _ _ hx h64 =>
    intro h
    have hnx := h.nx
    refine ⟨h.cb, h.bl, h.re, h.bu, ⟨by show 1 ≤ c.nx + 1; omega, by show c.nx + 1 ≤ _; omega⟩, ?_, ?_, ?_, ?_⟩
    · show (actL (c.qs ++ [q])).length ≤ 64
      rw [actL_app, List.length_append]
      have h1 := actL_len [q]
      simp only [List.length_singleton] at h1
      omega
    · intro x hx
      show 1 ≤ x.id ∧ x.id < c.nx + 1
      rcases List.mem_append.1 hx with hx | hx
      · have := h.lo x hx
        omega
      · obtain rfl := List.mem_singleton.1 hx
        omega
    · show (c.qs ++ [q]).Pairwise _
      rw [List.pairwise_append]
      refine ⟨h.ord, List.pairwise_singleton _ _, fun a hac b hb => ?_⟩
      obtain rfl := List.mem_singleton.1 hb
      have := h.lo a hac
      omega
    · intro x hx
      rcases List.mem_append.1 hx with hx | hx
      · exact h.qs x hx
      · obtain rfl := List.mem_singleton.1 hx
        exact hv
  | @snt c i q st hq hb h1 h2 =>
    intro h
    have hv := h.qs q (mem_at hq)
    exact h.one hq h.cb rfl h.bu (fun _ => rfl) id { hv with st := ⟨by show 0 ≤ st; omega, h2⟩, idle := fun h0 => absurd h0 hb }
  | @rcv c i q m hq hb h1 h2 =>
    intro h
    have hv := h.qs q (mem_at hq)
    refine h.one hq h.cb rfl h.bu (fun _ => rfl) id { hv with la := ?_, ans := ?_, rest := fun _ h0 => absurd h0 hb }
    · show longL (q.an ++ [m]) = false
      rw [longL_app, hv.la]
      simp [longL]
      omega
    · show ansL q.sh (q.an ++ [m]).length = true
      rw [List.length_append]
      exact h2
  | @fin c i q code now cd tx hq hd hk =>
    intro h
    have hv := h.qs q (mem_at hq)
    refine h.one hq (stopB_chk _ _ _ h.cb) (stopB_nm _ _ _ _) h.bu (fun _ => rfl) (fun h => by cases h) { hv with st := ⟨Int.le_refl _, by show (0 : Int) ≤ _; decide⟩, idle := fun _ => rfl, busy := fun h0 => absurd rfl h0, over := fun _ => hk, yet := fun h => (by cases h), rest := fun h => (by cases h) }
  | @ret c i q code now nx hq hb ha hr ht h0 h1 =>
    intro h
    have hv := h.qs q (mem_at hq)
    have hbu := bchk_rng h.bu
    refine h.one hq (stopB_chk _ _ _ h.cb) (stopB_nm _ _ _ _) ?_ (fun _ => rfl) id { hv with st := ⟨Int.le_refl _, by show (0 : Int) ≤ _; decide⟩, nx := ⟨h0, h1⟩, idle := fun _ => rfl, busy := fun h0 => absurd rfl h0, rest := fun _ _ => ⟨ha, hr⟩ }
    unfold bchk
    rw [if_neg (by omega)]
  | @beg c i k q b hq hd hb hk =>
    intro h
    have hv := h.qs q (mem_at hq)
    have hr := hv.rest hd hb
    have hnm := chkB_ok h.cb
    have hbb := (hnm.2 b (List.mem_of_getElem? hk)).2
    have hbk : (begQ c.bs k q).bk = b.nm := by unfold begQ; rw [hk]
    have hdn : (begQ c.bs k q).dn = q.dn := rfl
    refine h.one hq (chkB_map begB_nm (fun _ => begB_ok) _ h.cb) (modB_nm begB_nm _ _) ?_ (fun _ => rfl) id { hv with att := ⟨by show 0 ≤ q.att + 1; have := hv.att; omega, by show q.att + 1 ≤ _; omega⟩, idle := fun h0 => ?_, busy := fun _ => ⟨?_, ?_, hd⟩, rest := fun _ h0 => ?_ }
    · split
      · exact (bfst_ok h.bu).1
      · exact h.bu
    · rw [hbk] at h0
      exact absurd h0 (nmOk_size hbb)
    · rw [hbk]
      exact ⟨b, List.mem_of_getElem? hk, rfl⟩
    · show 1 ≤ q.att + 1
      have := hv.att
      omega
    · rw [hbk] at h0
      exact absurd h0 (nmOk_size hbb)
end Go.Proofs.YtmdkfbmpenohiaaDoor.Y

/- What every step of a client keeps: calls that have ended, the counts of the backends, the budget. -/
namespace Go.Proofs.YtmdkfbmpenohiaaDoor.Y
open Go.RowKit
theorem Mv.pol {c d : CL} {n : Nat} {l : List QR} (h : Mv c n l d) : d.ra = c.ra ∧ d.rb = c.rb ∧ d.rc = c.rc ∧ d.rk = c.rk ∧ d.mo = c.mo ∧ d.gn = c.gn ∧ d.bs.map (·.nm) = c.bs.map (·.nm) := by
  induction h with
  | refl => exact ⟨rfl, rfl, rfl, rfl, rfl, rfl, rfl⟩
  | trans _ _ h1 h2 => exact ⟨h2.1.trans h1.1, h2.2.1.trans h1.2.1, h2.2.2.1.trans h1.2.2.1, h2.2.2.2.1.trans h1.2.2.2.1, h2.2.2.2.2.1.trans h1.2.2.2.2.1, h2.2.2.2.2.2.1.trans h1.2.2.2.2.2.1, h2.2.2.2.2.2.2.trans h1.2.2.2.2.2.2⟩
  | app => exact ⟨rfl, rfl, rfl, rfl, rfl, rfl, rfl⟩
  | snt => exact ⟨rfl, rfl, rfl, rfl, rfl, rfl, rfl⟩
  | rcv => exact ⟨rfl, rfl, rfl, rfl, rfl, rfl, rfl⟩
  | fin => exact ⟨rfl, rfl, rfl, rfl, rfl, rfl, stopB_nm _ _ _ _⟩
  | ret => exact ⟨rfl, rfl, rfl, rfl, rfl, rfl, stopB_nm _ _ _ _⟩
  | beg => exact ⟨rfl, rfl, rfl, rfl, rfl, rfl, modB_nm begB_nm _ _⟩
/-- sizes. -/
def SzM (m : Nat) (c : CL) : Prop := c.qs.length ≤ m ∧ ∀ q ∈ c.qs, q.ms.length ≤ 4398046511104 ∧ q.mg.length ≤ 8796093022208 ∧ q.an.length ≤ m
theorem SzM.one {m n : Nat} {c : CL} (h : SzM m c) {i : Nat} {q : QR} {g : QR → QR} {bs : List BV} {tk : Int} (hq : c.qs[i]? = some q) (h1 : (g q).ms = q.ms) (h2 : (g q).mg = q.mg) (h3 : (g q).an.length ≤ q.an.length + n) : SzM (m + n) (chg c i g bs tk) := by
  refine ⟨?_, fun x hx => ?_⟩
  · show (c.qs.modify i g).length ≤ _
    rw [List.length_modify]
    have := h.1
    omega
  · rcases mem_mod hx with hx | ⟨y, hy, rfl⟩
    · obtain ⟨h4, h5, h6⟩ := h.2 x hx
      exact ⟨h4, h5, by omega⟩
    · rw [hq] at hy
      obtain rfl := Option.some.inj hy
      obtain ⟨h4, h5, h6⟩ := h.2 q (mem_at hq)
      rw [h1, h2]
      exact ⟨h4, h5, by omega⟩
theorem Mv.sz {c d : CL} {n : Nat} {l : List QR} (h : Mv c n l d) : ∀ {m : Nat}, SzM m c → SzM (m + n) d := by
  induction h with
  | refl => exact fun h => h
  | trans _ _ h1 h2 => exact fun h => by rw [← Nat.add_assoc]; exact h2 (h1 h)
  | @app c q hv hi hb ha hn hm hg hx h64 =>
    intro m h
    refine ⟨?_, fun x hx => ?_⟩
    · show (c.qs ++ [q]).length ≤ _
      rw [List.length_append]
      have := h.1
      simp only [List.length_singleton]
      omega
    · rcases List.mem_append.1 hx with hx | hx
      · obtain ⟨h4, h5, h6⟩ := h.2 x hx
        exact ⟨h4, h5, by omega⟩
      · obtain rfl := List.mem_singleton.1 hx
        exact ⟨hm, hg, by omega⟩
  | snt _ hq => exact fun h => h.one hq rfl rfl (Nat.le_refl _)
  | rcv _ hq => exact fun h => h.one hq rfl rfl (by rw [List.length_append]; exact Nat.le_refl _)
  | fin _ _ _ _ hq => exact fun h => h.one hq rfl rfl (Nat.le_refl _)
  | ret _ _ _ hq => exact fun h => h.one hq rfl rfl (Nat.le_refl _)
  | beg hq => exact fun h => h.one hq rfl rfl (Nat.le_refl _)
theorem Mv.len {c d : CL} {n : Nat} {l : List QR} (h : Mv c n l d) : c.qs.length ≤ d.qs.length := by
  induction h with
  | refl => exact Nat.le_refl _
  | trans _ _ h1 h2 => exact Nat.le_trans h1 h2
  | @app c q => exact (by show c.qs.length ≤ (c.qs ++ [q]).length; rw [List.length_append]; omega)
  | snt => exact Nat.le_of_eq (List.length_modify _ _ _).symm
  | rcv => exact Nat.le_of_eq (List.length_modify _ _ _).symm
  | fin => exact Nat.le_of_eq (List.length_modify _ _ _).symm
  | ret => exact Nat.le_of_eq (List.length_modify _ _ _).symm
  | beg => exact Nat.le_of_eq (List.length_modify _ _ _).symm
/-! calls that have ended -/
def Keep (q p : QR) : Prop := p.id = q.id ∧ (q.dn = true → p = q)
def Keeps (c d : CL) : Prop := ∀ (i : Nat) (q : QR), c.qs[i]? = some q → ∃ p, d.qs[i]? = some p ∧ Keep q p
theorem Keeps.refl (c : CL) : Keeps c c := fun _ q h => ⟨q, h, rfl, fun _ => rfl⟩
theorem Keeps.trans {a b c : CL} (h1 : Keeps a b) (h2 : Keeps b c) : Keeps a c := fun i q h => by
  obtain ⟨p, h3, h4, h5⟩ := h1 i q h
  obtain ⟨r, h6, h7, h8⟩ := h2 i p h3
  exact ⟨r, h6, h7.trans h4, fun hd => by have h9 := h5 hd; subst h9; exact h8 hd⟩
theorem Keeps.one {c : CL} {i : Nat} {q : QR} {g : QR → QR} {bs : List BV} {tk : Int} (hq : c.qs[i]? = some q) (hid : (g q).id = q.id) (hd : q.dn = false) : Keeps c (chg c i g bs tk) := fun j p hp => by
  show ∃ p', (c.qs.modify i g)[j]? = some p' ∧ _
  rw [List.getElem?_modify, hp]
  by_cases h : i = j
  · subst h
    rw [hq] at hp
    obtain rfl := Option.some.inj hp
    exact ⟨g q, by simp, hid, fun h => by rw [hd] at h; cases h⟩
  · exact ⟨p, by simp [h], rfl, fun _ => rfl⟩
theorem busy_dn {c : CL} (h : VC c) {i : Nat} {q : QR} (hq : c.qs[i]? = some q) (hb : q.bk.size ≠ 0) : q.dn = false := ((h.qs q (mem_at hq)).busy hb).2.2
theorem Mv.keeps {c d : CL} {n : Nat} {l : List QR} (h : Mv c n l d) : VC c → Keeps c d := by
  induction h with
  | refl => exact fun _ => Keeps.refl _
  | trans h1 _ h3 h4 => exact fun h => (h3 h).trans (h4 (h1.ok h))
  | @app c q hv hi hb ha hn hm hg hx h64 =>
    intro _ j p hp
    refine ⟨p, ?_, rfl, fun _ => rfl⟩
    show (c.qs ++ [q])[j]? = some p
    rw [List.getElem?_append_left (List.getElem?_eq_some_iff.1 hp).1, hp]
  | snt _ hq hb => exact fun h => Keeps.one hq rfl (busy_dn h hq hb)
  | rcv _ hq hb => exact fun h => Keeps.one hq rfl (busy_dn h hq hb)
  | fin _ _ _ _ hq hd => exact fun _ => Keeps.one hq rfl hd
  | ret _ _ _ hq hb => exact fun h => Keeps.one hq rfl (busy_dn h hq hb)
  | beg hq hd => exact fun _ => Keeps.one hq rfl hd
/-! the counts -/
def cntN (qs : List QR) (s : ByteArray) : Nat := qs.countP (fun q => beB q.bk s)
def BZ (c : CL) : Prop := ∀ b ∈ c.bs, b.bs = (cntN c.qs b.nm : Int)
def bt (b : Bool) : Int := if b then 1 else 0
theorem BZ.one {c : CL} (h : BZ c) {i : Nat} {q : QR} {g : QR → QR} {bs : List BV} {tk : Int} (hq : c.qs[i]? = some q) (hc : ∀ (j : Nat) (a' : BV), bs[j]? = some a' → ∃ a : BV, c.bs[j]? = some a ∧ a'.nm = a.nm ∧ a'.bs + bt (beB q.bk a.nm) = a.bs + bt (beB (g q).bk a.nm)) : BZ (chg c i g bs tk) := by
  intro b hb
  obtain ⟨j, hj⟩ := List.getElem?_of_mem hb
  obtain ⟨a, h1, h2, h3⟩ := hc j b hj
  have h4 := h a (List.mem_of_getElem? h1)
  have h5 := count_mod (g := g) (fun q => beB q.bk a.nm) hq
  show b.bs = (cntN (c.qs.modify i g) b.nm : Int)
  rw [h2]
  unfold cntN at h4 ⊢
  unfold bt at h3
  cases hx : beB q.bk a.nm <;> cases hy : beB (g q).bk a.nm <;> simp [hx, hy] at h3 h5 <;> omega
theorem endB_bs (code now : Int) (b : BV) : (endB code now b).bs = bndI (b.bs - 1) 1000000 := by
  unfold endB
  dsimp only
  split
  · split <;> rfl
  · split <;> rfl
theorem emp_nm {b : BV} (h : nmOk b.nm = true) : beB emptyB b.nm = false := by
  cases h1 : beB emptyB b.nm with
  | false => rfl
  | true => exact absurd (by rw [← beB_eq.1 h1]; rfl) (nmOk_size h)
theorem sz0_nm {s : ByteArray} (h0 : s.size = 0) {b : BV} (h : nmOk b.nm = true) : beB s b.nm = false := by
  rw [size0.1 h0]; exact emp_nm h
theorem stop_cnt {c : CL} (hV : VC c) (hZ : BZ c) (hl : c.qs.length ≤ 999999) {i : Nat} {q : QR} (hq : c.qs[i]? = some q) (code now : Int) : ∀ (j : Nat) (a' : BV), (stopB c q code now)[j]? = some a' → ∃ a : BV, c.bs[j]? = some a ∧ a'.nm = a.nm ∧ a'.bs + bt (beB q.bk a.nm) = a.bs + bt (beB emptyB a.nm) := by
  have hcb := (chkB_ok hV.cb).2
  intro j a' ha
  unfold stopB at ha
  split at ha
  · rename_i h0
    refine ⟨a', ha, rfl, ?_⟩
    rw [sz0_nm h0 (hcb a' (List.mem_of_getElem? ha)).2, emp_nm (hcb a' (List.mem_of_getElem? ha)).2]
  · rename_i h0
    obtain ⟨k, hk⟩ := finB_some (k := 0) ((hV.qs q (mem_at hq)).busy h0).1
    rw [hk] at ha
    dsimp only at ha
    obtain ⟨b, hb1, hb2⟩ := finB_at hk
    obtain ⟨a, h1, h2⟩ := modB_at ha
    have hm := List.mem_of_getElem? h1
    have he := emp_nm (hcb a hm).2
    by_cases hj : j = k
    · subst hj
      rw [hb1] at h1
      obtain rfl := Option.some.inj h1
      rw [if_pos rfl] at h2
      subst h2
      refine ⟨b, hb1, endB_nm _ _ _, ?_⟩
      have hnm := beB_eq.1 hb2
      have h4 := hZ b hm
      have h5 : 1 ≤ cntN c.qs b.nm := by
        unfold cntN
        rw [Nat.succ_le_iff, List.countP_pos_iff]
        exact ⟨q, mem_at hq, by rw [hnm]; exact beB_eq.2 rfl⟩
      have h6 : cntN c.qs b.nm ≤ c.qs.length := List.countP_le_length
      rw [endB_bs, show beB q.bk b.nm = true from beB_eq.2 hnm.symm, he, h4]
      unfold bndI bt
      simp
      omega
    · rw [if_neg hj] at h2
      subst h2
      refine ⟨a', h1, rfl, ?_⟩
      rw [he, show beB q.bk a'.nm = false from ?_]
      cases h9 : beB q.bk a'.nm with
      | false => rfl
      | true => exact absurd (nm_inj (chkB_pw hV.cb) h1 hb1 ((beB_eq.1 h9).symm.trans (beB_eq.1 hb2).symm)) hj
theorem Mv.bz {c d : CL} {n : Nat} {l : List QR} (h : Mv c n l d) : VC c → d.qs.length ≤ 999999 → BZ c → BZ d := by
  induction h with
  | refl => exact fun _ _ h => h
  | trans h1 h2 h3 h4 => exact fun h hl hz => h4 (h1.ok h) hl (h3 h (Nat.le_trans h2.len hl) hz)
  | @app c q hv hi hb ha hn hm hg hx h64 =>
    intro h _ hz b hbm
    have hb' : b ∈ c.bs := hbm
    rw [hz b hb']
    show (cntN c.qs b.nm : Int) = (cntN (c.qs ++ [q]) b.nm : Int)
    unfold cntN
    rw [List.countP_append, List.countP_singleton, sz0_nm hb ((chkB_ok h.cb).2 b hb').2]
    simp
  | snt _ hq => exact fun _ _ hz => hz.one hq (fun j a ha => ⟨a, ha, rfl, rfl⟩)
  | rcv _ hq => exact fun _ _ hz => hz.one hq (fun j a ha => ⟨a, ha, rfl, rfl⟩)
  | @fin c i q code now cd tx hq hd hk => exact fun h hl hz => hz.one hq (stop_cnt h hz (by have : (c.qs.modify i _).length ≤ _ := hl; rw [List.length_modify] at this; exact this) hq code now)
  | @ret c i q code now nx hq hb => exact fun h hl hz => hz.one hq (stop_cnt h hz (by have : (c.qs.modify i _).length ≤ _ := hl; rw [List.length_modify] at this; exact this) hq code now)
  | @beg c i k q b hq hd hb hk =>
    intro h hl hz
    have hl' : (c.qs.modify i (begQ c.bs k)).length ≤ 999999 := hl
    rw [List.length_modify] at hl'
    have hcb := (chkB_ok h.cb).2
    refine hz.one hq (fun j a' ha => ?_)
    obtain ⟨a, h1, h2⟩ := modB_at ha
    have hm := List.mem_of_getElem? h1
    have hbk : (begQ c.bs k q).bk = b.nm := by unfold begQ; rw [hk]
    rw [hbk]
    refine ⟨a, h1, by rw [h2]; split <;> rfl, ?_⟩
    rw [sz0_nm hb (hcb a hm).2]
    by_cases hj : j = k
    · subst hj
      rw [hk] at h1
      obtain rfl := Option.some.inj h1
      rw [if_pos rfl] at h2
      subst h2
      have h4 := hz b hm
      have h6 : cntN c.qs b.nm ≤ c.qs.length := List.countP_le_length
      rw [show beB b.nm b.nm = true from beB_eq.2 rfl]
      show bndI (b.bs + 1) 1000000 + _ = _
      rw [h4]
      unfold bndI bt
      simp
      omega
    · rw [if_neg hj] at h2
      subst h2
      rw [show beB b.nm a'.nm = false from ?_]
      cases h9 : beB b.nm a'.nm with
      | false => rfl
      | true => exact absurd (nm_inj (chkB_pw h.cb) h1 hk (beB_eq.1 h9).symm) hj
/-! the budget -/
def pend (q : QR) : Bool := !q.dn && decide (q.bk.size = 0) && decide (1 ≤ q.att)
def pot (c : CL) : Int := 1000 * (c.qs.countP pend : Int) + c.tk
def isF (q : QR) : Bool := decide (q.att = 1)
theorem pot_one {c : CL} {i : Nat} {q : QR} {g : QR → QR} {bs : List BV} {tk : Int} (hq : c.qs[i]? = some q) : pot (chg c i g bs tk) + 1000 * bt (pend q) + c.tk = pot c + 1000 * bt (pend (g q)) + tk := by
  have h5 := count_mod (g := g) pend hq
  unfold pot
  show 1000 * ((c.qs.modify i g).countP pend : Int) + tk + _ + _ = _
  unfold bt
  cases hx : pend q <;> cases hy : pend (g q) <;> simp [hx, hy] at h5 ⊢ <;> omega
theorem pend_busy {q : QR} (h : q.bk.size ≠ 0) : pend q = false := by unfold pend; simp [h]
theorem Mv.pots {c d : CL} {n : Nat} {l : List QR} (h : Mv c n l d) : VC c → pot d + 1000 * (l.countP (fun q => !isF q) : Int) ≤ pot c + c.gn * (l.countP isF : Int) := by
  induction h with
  | refl => exact fun _ => by simp
  | @trans c d e m n l r h1 h2 h3 h4 =>
    intro h
    have h5 := h3 h
    have h6 := h4 (h1.ok h)
    rw [h1.pol.2.2.2.2.2.1] at h6
    rw [List.countP_append, List.countP_append]
    have h7 := Int.mul_add c.gn (l.countP isF : Int) (r.countP isF : Int)
    push_cast
    omega
  | @app c q hv hi hb ha hn hm hg hx h64 =>
    intro _
    simp only [List.countP_nil, Int.natCast_zero, Int.mul_zero, Int.add_zero]
    show 1000 * ((c.qs ++ [q]).countP pend : Int) + c.tk ≤ _
    rw [List.countP_append, List.countP_singleton, show pend q = false by unfold pend; simp [ha]]
    exact Int.le_refl _
  | @snt c i q st hq hb =>
    intro _
    have h1 := pot_one (g := fun q => { q with st := st }) (bs := c.bs) (tk := c.tk) hq
    rw [pend_busy hb, pend_busy (q := { q with st := st }) hb] at h1
    simp only [List.countP_nil, Int.natCast_zero, Int.mul_zero, Int.add_zero]
    omega
  | @rcv c i q m hq hb =>
    intro _
    have h1 := pot_one (g := fun q => { q with an := q.an ++ [m] }) (bs := c.bs) (tk := c.tk) hq
    rw [pend_busy hb, pend_busy (q := { q with an := q.an ++ [m] }) hb] at h1
    simp only [List.countP_nil, Int.natCast_zero, Int.mul_zero, Int.add_zero]
    omega
  | @fin c i q code now cd tx hq hd hk =>
    intro _
    have h1 := pot_one (g := fun q => { q with bk := emptyB, st := 0, dn := true, cd := cd, tx := tx }) (bs := stopB c q code now) (tk := c.tk) hq
    rw [show pend { q with bk := emptyB, st := 0, dn := true, cd := cd, tx := tx } = false from rfl] at h1
    simp only [List.countP_nil, Int.natCast_zero, Int.mul_zero, Int.add_zero]
    unfold bt at h1
    split at h1 <;> simp at h1 <;> omega
  | @ret c i q code now nx hq hb =>
    intro _
    have h1 := pot_one (g := fun q => { q with bk := emptyB, st := 0, nx := nx }) (bs := stopB c q code now) (tk := c.tk - 1000) hq
    rw [pend_busy hb] at h1
    simp only [List.countP_nil, Int.natCast_zero, Int.mul_zero, Int.add_zero]
    unfold bt at h1
    split at h1 <;> simp at h1 <;> (try split at h1) <;> omega
  | @beg c i k q b hq hd hb hk =>
    intro h
    have hv := h.qs q (mem_at hq)
    have hatt := hv.att
    have hbb := ((chkB_ok h.cb).2 b (List.mem_of_getElem? hk)).2
    have hbk : (begQ c.bs k q).bk = b.nm := by unfold begQ; rw [hk]
    have h1 := pot_one (g := begQ c.bs k) (bs := modB begB c.bs k) (tk := if q.att + 1 = 1 then bfst c.tk c.mo c.gn else c.tk) hq
    rw [pend_busy (q := begQ c.bs k q) (by rw [hbk]; exact nmOk_size hbb)] at h1
    have ha : (begQ c.bs k q).att = q.att + 1 := rfl
    rw [List.countP_singleton, List.countP_singleton]
    by_cases h0 : q.att = 0
    · have hp : pend q = false := by unfold pend; simp [h0]
      have e1 : isF (begQ c.bs k q) = true := by unfold isF; rw [ha, h0]; rfl
      have e2 : (if q.att + 1 = 1 then bfst c.tk c.mo c.gn else c.tk) = bfst c.tk c.mo c.gn := if_pos (by omega)
      have h2 := (bfst_ok h.bu).2
      rw [e1]
      rw [hp] at h1
      rw [e2] at h1 ⊢
      unfold bt at h1
      simp at h1 ⊢
      omega
    · have hp : pend q = true := by unfold pend; simp [hd, hb]; omega
      have e1 : isF (begQ c.bs k q) = false := by unfold isF; rw [ha]; exact decide_eq_false (by omega)
      have e2 : (if q.att + 1 = 1 then bfst c.tk c.mo c.gn else c.tk) = c.tk := if_neg (by omega)
      rw [e1]
      rw [hp] at h1
      rw [e2] at h1 ⊢
      unfold bt at h1
      simp at h1 ⊢
      omega
end Go.Proofs.YtmdkfbmpenohiaaDoor.Y

/- Each function of the package is made of moves. -/
namespace Go.Proofs.YtmdkfbmpenohiaaDoor.Y
open Go.RowKit
theorem mod_same {α : Type} {g : α → α} : ∀ {l : List α} {i : Nat} {x : α}, l[i]? = some x → g x = x → l.modify i g = l
  | [], i, x, h, _ => by simp at h
  | a :: l, 0, x, h, hg => by
    obtain rfl : a = x := by simpa using h
    simp [hg]
  | a :: l, i + 1, x, h, hg => by simp [mod_same (l := l) (i := i) (x := x) (by simpa using h) hg]
theorem mod_at {α : Type} {g : α → α} {l : List α} {i : Nat} {x : α} (h : l[i]? = some x) : (l.modify i g)[i]? = some (g x) := by
  rw [List.getElem?_modify, h]; simp
theorem mod_eqx {α : Type} {f g : α → α} : ∀ {l : List α} {i : Nat} {x : α}, l[i]? = some x → f x = g x → l.modify i f = l.modify i g
  | [], i, x, h, _ => by simp at h
  | a :: l, 0, x, h, hg => by
    obtain rfl : a = x := by simpa using h
    simp [hg]
  | a :: l, i + 1, x, h, hg => by simp [mod_eqx (l := l) (i := i) (x := x) (by simpa using h) hg]
theorem atQ_of {c : CL} {i : Nat} {q : QR} (h : c.qs[i]? = some q) : atQ c i = q := by
  unfold atQ; rw [List.getD_eq_getElem?_getD, h]; rfl
theorem fresh_ok {c : CL} {q : QR} (h : freshL c q = 0) : otherL q = false ∧ c2 q.sh ≠ 0 ∧ permL q.mg.length (c1 q.sh) (c2 q.sh) = true ∧ headE q.hd = 0 ∧ longL q.mg = false ∧ (actL c.qs).length < 64 ∧ c.nx ≤ 2147483647 := by
  unfold freshL at h
  split at h
  · cases h
  · rename_i h1
    split at h
    · rename_i h2; exact absurd h h2
    · rename_i h2
      split at h
      · cases h
      · rename_i h3
        split at h
        · cases h
        · rename_i h4
          simp only [not_or] at h1 h4
          exact ⟨by simpa using h1.1, h1.2.1, by simpa using h1.2.2, by simpa using h2, by simpa using h3, by omega, by omega⟩
theorem other_ok {q : QR} (h : otherL q = false) : q.id = 0 ∧ q.att = 0 ∧ q.bk.size = 0 ∧ q.st = 0 ∧ q.nx = 0 ∧ q.an.length = 0 ∧ q.dn = false ∧ q.cd = 0 ∧ q.tx.size = 0 := by
  unfold otherL at h
  simp at h
  obtain ⟨⟨⟨⟨⟨⟨⟨⟨h1, h2⟩, h3⟩, h4⟩, h5⟩, h6⟩, h7⟩, h8⟩, h9⟩ := h
  refine ⟨h1, h2, by rw [h3]; rfl, h4, h5, by simp [h6], h7, h8, by rw [h9]; rfl⟩
theorem isS_c2 {s : Int} (h : c2 s ≠ 0) : isS s = true := by
  unfold c2 at h
  split at h
  · assumption
  · exact absurd rfl h
theorem ansL_zero {s : Int} (_h : isS s = true) : ansL s 0 = true := by
  unfold ansL c4
  rw [if_pos _h]
  split <;> decide
theorem made_hd (c : CL) (now : Int) (q : QR) : (madeL c now q).hd = q.hd := by
  unfold madeL
  dsimp only
  split <;> rfl
theorem chk3 : checkS 3 emptyB = 0 := by kernel_rfl
theorem chk1 : checkS 1 emptyB = 0 := by kernel_rfl
theorem chk12 : checkS 12 emptyB = 0 := by kernel_rfl
theorem made_ok {c : CL} (hV : VC c) (now : Int) {q : QR} (h : freshL c q = 0) : VQ c.ra c.bs (madeL c now q) := by
  obtain ⟨h1, h2, h3, h4, h5, h6, h7⟩ := fresh_ok h
  obtain ⟨o1, o2, o3, o4, o5, o6, o7, o8, o9⟩ := other_ok h1
  have hs := isS_c2 h2
  have ha := rchk_rng hV.re
  have hn := clk_rng now
  have hhd : headE (madeL c now q).hd = 0 := by rw [made_hd]; exact h4
  have han : q.an = [] := List.length_eq_zero_iff.1 o6
  unfold madeL at hhd ⊢
  dsimp only at hhd ⊢
  split
  · rename_i hp
    rw [if_pos hp] at hhd
    exact ⟨hhd, hs, h3, h5, by show longL q.an = false; rw [han]; rfl, by show ansL q.sh q.an.length = true; rw [o6]; exact ansL_zero hs, by show 0 ≤ q.att ∧ q.att ≤ c.ra; omega, by show 0 ≤ q.st ∧ q.st ≤ _; omega, hn, fun _ => o4, fun h0 => absurd o3 h0, fun _ => chk3, fun h0 => (by cases h0), fun h0 => (by cases h0)⟩
  · rename_i hp
    rw [if_neg hp] at hhd
    exact ⟨hhd, hs, h3, h5, by show longL q.an = false; rw [han]; rfl, by show ansL q.sh q.an.length = true; rw [o6]; exact ansL_zero hs, by show 0 ≤ q.att ∧ q.att ≤ c.ra; omega, by show 0 ≤ q.st ∧ q.st ≤ _; omega, hn, fun _ => o4, fun h0 => absurd o3 h0, fun h0 => (by rw [show _ = q.dn from rfl, o7] at h0; cases h0), fun _ => ⟨o8, o9⟩, fun _ _ => ⟨o6, by show q.att < _; omega⟩⟩
theorem made_parts (c : CL) (now : Int) (q : QR) : (madeL c now q).id = c.nx ∧ (madeL c now q).bk = q.bk ∧ (madeL c now q).att = q.att ∧ (madeL c now q).an = q.an ∧ (madeL c now q).ms = q.ms ∧ (madeL c now q).mg = q.mg := by
  unfold madeL
  dsimp only
  split <;> exact ⟨rfl, rfl, rfl, rfl, rfl, rfl⟩
theorem call_mv {c : CL} (hV : VC c) (now : Int) {q : QR} (h1 : q.ms.length ≤ 4398046511104) (h2 : q.mg.length ≤ 8796093022208) : ∃ n, n ≤ 1 ∧ Mv c n [] (callL c now q).1 := by
  unfold callL
  split
  · exact ⟨0, by omega, .refl _⟩
  · rename_i h
    have h0 : freshL c q = 0 := by simpa using h
    obtain ⟨f1, f2, f3, f4, f5, f6, f7⟩ := fresh_ok h0
    obtain ⟨o1, o2, o3, o4, o5, o6, o7, o8, o9⟩ := other_ok f1
    obtain ⟨m1, m2, m3, m4, m5, m6⟩ := made_parts c now q
    exact ⟨1, Nat.le_refl _, .app (madeL c now q) (made_ok hV now h0) m1 (by rw [m2]; exact o3) (by rw [m3]; exact o2) (by rw [m4]; exact o6) (by rw [m5]; exact h1) (by rw [m6]; exact h2) f7 f6⟩
theorem start_mvGo (now : Int) (base : CL) : ∀ (r pre : List QR) (bs : List BV) (tk : Int), Mv { base with qs := pre ++ r, bs := bs, tk := tk } 0 (startGo now base.mo base.gn r bs tk).out { base with qs := pre ++ (startGo now base.mo base.gn r bs tk).qs, bs := (startGo now base.mo base.gn r bs tk).bs, tk := (startGo now base.mo base.gn r bs tk).tk }
  | [], pre, bs, tk => .refl _
  | q :: r, pre, bs, tk => by
    have hq : (pre ++ q :: r)[pre.length]? = some q := by rw [List.getElem?_append_right (Nat.le_refl _), Nat.sub_self]; rfl
    cases hc : (if dueL now q = true then pickL now bs else none) with
    | none =>
      rw [startGo_no hc]
      have ih := start_mvGo now base r (pre ++ [q]) bs tk
      simp only [List.append_assoc, List.singleton_append] at ih
      exact ih
    | some k =>
      rw [startGo_yes hc]
      have hdu : dueL now q = true := by
        cases hd : dueL now q with
        | true => rfl
        | false => rw [hd] at hc; cases hc
      rw [if_pos hdu] at hc
      obtain ⟨b, hb⟩ := pick_lt hc
      have ih := start_mvGo now base r (pre ++ [begQ bs k q]) (modB begB bs k) (if q.att + 1 = 1 then bfst tk base.mo base.gn else tk)
      simp only [List.append_assoc, List.singleton_append] at ih
      unfold dueL at hdu
      simp at hdu
      have h1 : Mv { base with qs := pre ++ q :: r, bs := bs, tk := tk } 0 [begQ bs k q] (chg { base with qs := pre ++ q :: r, bs := bs, tk := tk } pre.length (begQ bs k) (modB begB bs k) (if q.att + 1 = 1 then bfst tk base.mo base.gn else tk)) := .beg hq hdu.1.1.1 (by rw [hdu.1.1.2]; rfl) hb
      unfold chg at h1
      dsimp only at h1
      rw [mod_app] at h1
      exact h1.trans ih
theorem start_mv (c : CL) (now : Int) : Mv c 0 (startL c now).2 (startL c now).1 := start_mvGo (clk now) c c.qs [] c.bs c.tk
theorem sent_mv (c : CL) (id st : Int) : Mv c 0 [] (sentL c id st).1 := by
  unfold sentL
  split
  · exact .refl _
  · rename_i h
    obtain ⟨q, h1, h2⟩ := run_ok (by simpa using h)
    split
    · exact .refl _
    · split
      · exact .refl _
      · exact .snt st h1 h2 (by omega) (by omega)
theorem recv_mv (c : CL) (id : Int) (m : ByteArray) : ∃ n, n ≤ 1 ∧ Mv c n [] (recvL c id m).1 := by
  unfold recvL
  split
  · exact ⟨0, by omega, .refl _⟩
  · rename_i h
    obtain ⟨q, h1, h2⟩ := run_ok (by simpa using h)
    split
    · exact ⟨0, by omega, .refl _⟩
    · split
      · exact ⟨0, by omega, .refl _⟩
      · rename_i h3
        rw [atQ_of h1] at h3
        exact ⟨1, Nat.le_refl _, .rcv m h1 h2 (by omega) (by unfold ansL; simp; omega)⟩
/-! attempts that end -/
def idleQ (q : QR) : QR := { q with bk := emptyB, st := 0 }
theorem idle_same {q : QR} (h1 : q.bk.size = 0) (h2 : q.st = 0) : idleQ q = q := by
  obtain ⟨id, sv, mt, late, ms, sh, mg, att, bk, st, nx, an, dn, cd, tx⟩ := q
  have h3 := size0.1 h1
  dsimp only at h2 h3
  subst h2 h3
  rfl
theorem stop_eq {c : CL} {i : Nat} {q : QR} (hq : c.qs[i]? = some q) (hi : q.bk.size = 0 → q.st = 0) (code now : Int) : stopL c i code now = chg c i idleQ (stopB c q code now) c.tk := by
  unfold stopL
  dsimp only
  rw [atQ_of hq]
  by_cases h : q.bk.size = 0
  · rw [if_pos h]
    unfold chg stopB
    rw [if_pos h, mod_same hq (idle_same h (hi h))]
  · rw [if_neg h]
    unfold chg stopB
    rw [if_neg h]
    rfl
theorem fini_eq {c : CL} {i : Nat} {q : QR} (hq : c.qs[i]? = some q) (hi : q.bk.size = 0 → q.st = 0) (code now : Int) : finiL c i code now = chg c i (fun q => { q with bk := emptyB, st := 0, dn := true, cd := code, tx := emptyB }) (stopB c q code now) c.tk := by
  unfold finiL
  rw [stop_eq hq hi]
  unfold setQ chg
  dsimp only
  rw [mod_mod]
  rfl
theorem idle_st {c : CL} (hV : VC c) {i : Nat} {q : QR} (hq : c.qs[i]? = some q) : q.bk.size = 0 → q.st = 0 := (hV.qs q (mem_at hq)).idle
theorem fini_mv {c : CL} (hV : VC c) {i : Nat} {q : QR} (hq : c.qs[i]? = some q) (hd : q.dn = false) {code : Int} (now : Int) (hc : checkS code emptyB = 0) : Mv c 0 [] (finiL c i code now) := by
  rw [fini_eq hq (idle_st hV hq)]
  exact .fin code now code emptyB hq hd hc
theorem canc_mv {c : CL} (hV : VC c) (now id : Int) : Mv c 0 [] (cancL c now id).1 := by
  unfold cancL
  split
  · exact .refl _
  · rename_i i hf
    obtain ⟨q, hq, _⟩ := finQ_at hf
    split
    · exact .refl _
    · rename_i hd
      rw [atQ_of hq] at hd
      exact fini_mv hV hq (by simpa using hd) _ chk1
theorem expi_mvGo (now : Int) : ∀ (n i : Nat) (c : CL), VC c → i + n = c.qs.length → Mv c 0 [] (expGo now n i c).1
  | 0, _, _, _, _ => .refl _
  | n + 1, i, c, hV, hl => by
    obtain ⟨q, hq⟩ : ∃ q, c.qs[i]? = some q := ⟨_, List.getElem?_eq_getElem (by omega)⟩
    rw [expGo]
    dsimp only
    split
    · rename_i h
      rw [atQ_of hq] at h
      have h1 := fini_mv hV hq h.1 now chk3
      have hl2 : (finiL c i 3 now).qs.length = c.qs.length := by rw [fini_eq hq (idle_st hV hq)]; exact List.length_modify _ _ _
      exact h1.trans (expi_mvGo now n (i + 1) _ (h1.ok hV) (by omega))
    · exact expi_mvGo now n (i + 1) c hV (by omega)
theorem expi_mv {c : CL} (hV : VC c) (now : Int) : Mv c 0 [] (expiL c now).1 := expi_mvGo _ _ _ _ hV (Nat.zero_add _)
theorem aft_rng (a b : Int) : 0 ≤ aftL a b ∧ aftL a b ≤ 1099511627776 := clk_rng _
theorem may_ok {c : CL} {n code : Int} {safe : Bool} (h : mayL c n code safe = true) : n < c.ra ∧ 1000 ≤ c.tk ∧ bchk c.tk c.mo c.gn = 0 := by
  unfold mayL at h
  simp only [Bool.and_eq_true, decide_eq_true_eq] at h
  exact ⟨h.1.1.1.1.1.2, h.2, h.1.1.1.1.1.1.1.2⟩
/-- what End does to a call whose attempt is under way. -/
theorem end_cases {c : CL} (hV : VC c) (now id code : Int) (tx : ByteArray) (safe : Bool) : (runE c id ≠ 0 ∧ endC c now id code tx safe = (c, runE c id)) ∨ (checkS code tx ≠ 0 ∧ endC c now id code tx safe = (c, checkS code tx)) ∨ ∃ q, c.qs[runI c id]? = some q ∧ q.bk.size ≠ 0 ∧ checkS code tx = 0 ∧ ((endC c now id code tx safe = (chg c (runI c id) (fun q => { q with bk := emptyB, st := 0, nx := agaAt c q (clk now) }) (stopB c q code (clk now)) (c.tk - 1000), 0) ∧ q.an.length = 0 ∧ q.att < c.ra ∧ 1000 ≤ c.tk) ∨ (endC c now id code tx safe = (chg c (runI c id) (fun q => { q with bk := emptyB, st := 0, dn := true, cd := code, tx := tx }) (stopB c q code (clk now)) c.tk, 0))) := by
  unfold endC
  by_cases h1 : runE c id ≠ 0
  · exact .inl ⟨h1, by rw [if_pos h1]⟩
  rw [if_neg h1]
  by_cases h2 : checkS code tx ≠ 0
  · exact .inr (.inl ⟨h2, by rw [if_pos h2]⟩)
  rw [if_neg h2]
  obtain ⟨q, hq, hb⟩ := run_ok (by simpa using h1)
  refine .inr (.inr ⟨q, hq, hb, by simpa using h2, ?_⟩)
  dsimp only
  rw [stop_eq hq (idle_st hV hq)]
  have hat : atQ (chg c (runI c id) idleQ (stopB c q code (clk now)) c.tk) (runI c id) = idleQ q := atQ_of (mod_at hq)
  rw [hat]
  by_cases h3 : agaOk (chg c (runI c id) idleQ (stopB c q code (clk now)) c.tk) (idleQ q) (clk now) code safe = true
  · rw [if_pos h3]
    unfold agaOk at h3
    simp only [Bool.and_eq_true, decide_eq_true_eq] at h3
    obtain ⟨h4, h5, h6⟩ := may_ok h3.1.1.1
    refine .inl ⟨?_, h3.1.1.2, h4, h5⟩
    have h7 : btk c.tk c.mo c.gn = c.tk - 1000 := by unfold btk; rw [if_pos ⟨h6, h5⟩]
    unfold setQ chg
    dsimp only
    rw [h7, mod_mod]
    rfl
  · rw [if_neg h3]
    refine .inr ?_
    unfold setQ chg
    dsimp only
    rw [mod_mod]
    rfl
theorem end_mv {c : CL} (hV : VC c) (now id code : Int) (tx : ByteArray) (safe : Bool) : Mv c 0 [] (endC c now id code tx safe).1 := by
  rcases end_cases hV now id code tx safe with ⟨_, h⟩ | ⟨_, h⟩ | ⟨q, hq, hb, hk, ⟨h, h1, h2, h3⟩ | h⟩
  · rw [h]; exact .refl _
  · rw [h]; exact .refl _
  · rw [h]
    have h4 : Mv c 0 [] (chg c (runI c id) (fun x => { x with bk := emptyB, st := 0, nx := agaAt c q (clk now) }) (stopB c q code (clk now)) (c.tk - 1000)) := .ret code (clk now) (agaAt c q (clk now)) hq hb h1 h2 h3 (aft_rng _ _).1 (aft_rng _ _).2
    have h5 : c.qs.modify (runI c id) (fun x => { x with bk := emptyB, st := 0, nx := agaAt c q (clk now) }) = c.qs.modify (runI c id) (fun x => { x with bk := emptyB, st := 0, nx := agaAt c x (clk now) }) := mod_eqx hq rfl
    unfold chg at h4 ⊢
    rw [h5] at h4
    exact h4
  · rw [h]
    exact .fin code (clk now) code tx hq (busy_dn hV hq hb) hk
theorem step_mv {c : CL} (hV : VC c) (o : OpD) (h1 : o.q.ms.length ≤ 4398046511104) (h2 : o.q.mg.length ≤ 8796093022208) : ∃ n, n ≤ 1 ∧ Mv c n (stepL c o).2.qs (stepL c o).1 := by
  unfold stepL
  split
  · exact call_mv hV o.now h1 h2
  split
  · exact ⟨0, by omega, start_mv c o.now⟩
  split
  · exact ⟨0, by omega, sent_mv c o.id o.n⟩
  split
  · exact recv_mv c o.id o.msg
  split
  · exact ⟨0, by omega, end_mv hV _ _ _ _ _⟩
  split
  · exact ⟨0, by omega, canc_mv hV _ _⟩
  split
  · exact ⟨0, by omega, expi_mv hV _⟩
  · exact ⟨0, by omega, .refl _⟩
/-! New -/
theorem new_ok {l : List BV} {a b c k t m g1 : Int} (h : (newL l a b c k t m g1).2 = 0) : newL l a b c k t m g1 = (⟨l, a, b, c, k, t, m, g1, [], 1⟩, 0) ∧ VC ⟨l, a, b, c, k, t, m, g1, [], 1⟩ := by
  unfold newL at h ⊢
  split at h
  · rename_i h1; exact absurd h h1
  rename_i h1
  split at h
  · cases h
  rename_i h2
  split at h
  · rename_i h3; exact absurd h h3
  rename_i h3
  split at h
  · rename_i h4; exact absurd h h4
  rename_i h4
  rw [if_neg h1, if_neg h2, if_neg h3, if_neg h4]
  refine ⟨rfl, ⟨by simpa using h1, fun h0 => h2 (by rw [show l = [] from h0]; rfl), by simpa using h3, by simpa using h4, ⟨Int.le_refl _, by show (1 : Int) ≤ 2147483648; decide⟩, Nat.zero_le _, fun q h => ?_, List.Pairwise.nil, fun q h => ?_⟩⟩
  · cases h
  · cases h
end Go.Proofs.YtmdkfbmpenohiaaDoor.Y

/- If all attempts end, all calls end: plain laws. -/
namespace Go.Proofs.YtmdkfbmpenohiaaDoor.Y
open Go.RowKit
/-! calls by their numbers -/
theorem id_inj {c : CL} (hV : VC c) {i j : Nat} {a b : QR} (ha : c.qs[i]? = some a) (hb : c.qs[j]? = some b) (hn : a.id = b.id) : i = j := by
  have h := hV.ord
  rw [List.pairwise_iff_getElem] at h
  obtain ⟨hi, rfl⟩ := List.getElem?_eq_some_iff.1 ha
  obtain ⟨hj, rfl⟩ := List.getElem?_eq_some_iff.1 hb
  rcases Nat.lt_trichotomy i j with h1 | h1 | h1
  · have := h i j hi hj h1
    omega
  · exact h1
  · have := h j i hj hi h1
    omega
theorem finQ_none {id : Int} : ∀ {l : List QR} {k : Nat}, finQ id l k = none → ∀ q ∈ l, q.id ≠ id
  | [], _, _ => fun _ h => by cases h
  | a :: l, k, h => fun q hq => by
    rw [finQ] at h
    split at h
    · cases h
    · rename_i h1
      rcases List.mem_cons.1 hq with rfl | hq
      · exact h1
      · exact finQ_none h q hq
theorem finQ_ix {c : CL} (hV : VC c) {i : Nat} {q : QR} (h : c.qs[i]? = some q) : finQ q.id c.qs 0 = some i := by
  cases hf : finQ q.id c.qs 0 with
  | none => exact absurd rfl (finQ_none hf q (mem_at h))
  | some j =>
    obtain ⟨p, h1, h2⟩ := finQ_at hf
    rw [id_inj hV h1 h h2]
theorem findL_of {c : CL} (hV : VC c) {q : QR} (h : q ∈ c.qs) : findL c q.id = (q, true) := by
  obtain ⟨i, hi⟩ := List.getElem?_of_mem h
  unfold findL
  rw [finQ_ix hV hi]
  simp only [atQ_of hi]
theorem run_of {c : CL} (hV : VC c) {q : QR} (h : q ∈ c.qs) (hb : q.bk.size ≠ 0) : ∃ i, c.qs[i]? = some q ∧ runE c q.id = 0 ∧ runI c q.id = i := by
  obtain ⟨i, hi⟩ := List.getElem?_of_mem h
  have h1 : runE c q.id = 0 := by unfold runE; rw [finQ_ix hV hi]; dsimp only; rw [hi]; simp only; rw [if_neg hb]
  refine ⟨i, hi, h1, ?_⟩
  unfold runI
  rw [if_pos h1, finQ_ix hV hi]; rfl
theorem Keeps.find {c d : CL} (h : Keeps c d) (hV : VC d) {q : QR} (hq : q ∈ c.qs) : ∃ p, findL d q.id = (p, true) ∧ p ∈ d.qs ∧ (q.dn = true → p = q) := by
  obtain ⟨i, hi⟩ := List.getElem?_of_mem hq
  obtain ⟨p, h1, h2, h3⟩ := h i q hi
  exact ⟨p, by rw [← h2]; exact findL_of hV (mem_at h1), mem_at h1, h3⟩
/-- an attempt ends at the greatest time. -/
def endX (c : CL) (id : Int) : CL × Int := endC c 1099511627776 id 12 emptyB true
theorem endX_mv {c : CL} (hV : VC c) (id : Int) : Mv c 0 [] (endX c id).1 := end_mv hV _ _ _ _ _
theorem endX_at {c : CL} (hV : VC c) {q : QR} (hq : q ∈ c.qs) (hb : q.bk.size ≠ 0) : (endX c q.id).2 = 0 ∧ (∀ x ∈ (endX c q.id).1.qs, (x.id = q.id ∧ x.bk.size = 0 ∧ x.att = q.att) ∨ (x ∈ c.qs ∧ x.id ≠ q.id)) ∧ (∀ x ∈ c.qs, x.id ≠ q.id → x ∈ (endX c q.id).1.qs) := by
  obtain ⟨i, hi, h1, h2⟩ := run_of hV hq hb
  have key : ∀ (g : QR → QR) (bs : List BV) (tk : Int), (g q).id = q.id → (g q).bk.size = 0 → (g q).att = q.att → (∀ x ∈ (chg c i g bs tk).qs, (x.id = q.id ∧ x.bk.size = 0 ∧ x.att = q.att) ∨ (x ∈ c.qs ∧ x.id ≠ q.id)) ∧ (∀ x ∈ c.qs, x.id ≠ q.id → x ∈ (chg c i g bs tk).qs) := by
    intro g bs tk g1 g2 g3
    constructor
    · intro x hx
      obtain ⟨j, hj⟩ := List.getElem?_of_mem hx
      have hj' : (c.qs.modify i g)[j]? = some x := hj
      rw [List.getElem?_modify] at hj'
      by_cases hij : i = j
      · subst hij
        rw [hi] at hj'
        obtain rfl : g q = x := by simpa using hj'
        exact .inl ⟨g1, g2, g3⟩
      · cases hcj : c.qs[j]? with
        | none => rw [hcj] at hj'; cases hj'
        | some y =>
          rw [hcj] at hj'
          obtain rfl : y = x := by simpa [hij] using hj'
          exact .inr ⟨mem_at hcj, fun he => hij (id_inj hV hi hcj he.symm)⟩
    · intro x hx hne
      obtain ⟨j, hj⟩ := List.getElem?_of_mem hx
      have hij : i ≠ j := fun h => by subst h; rw [hi] at hj; obtain rfl := Option.some.inj hj; exact hne rfl
      refine List.mem_of_getElem? (i := j) ?_
      show (c.qs.modify i g)[j]? = some x
      rw [List.getElem?_modify, hj]
      simp [hij]
  rcases end_cases hV 1099511627776 q.id 12 emptyB true with ⟨h, _⟩ | ⟨h, _⟩ | ⟨p, hp, _, _, ⟨h, _⟩ | h⟩
  · exact absurd h1 h
  · exact absurd chk12 h
  · rw [h2, hi] at hp
    obtain rfl := Option.some.inj hp
    unfold endX
    rw [h, h2]
    refine ⟨rfl, ?_⟩
    exact key (fun x => { x with bk := emptyB, st := 0, nx := agaAt c x (clk 1099511627776) }) _ _ rfl rfl rfl
  · rw [h2, hi] at hp
    obtain rfl := Option.some.inj hp
    unfold endX
    rw [h, h2]
    refine ⟨rfl, ?_⟩
    exact key (fun x => { x with bk := emptyB, st := 0, dn := true, cd := 12, tx := emptyB }) _ _ rfl rfl rfl
/-! the first part: every attempt that is under way ends -/
def P1 (r : List Int) (c : CL) : Prop := VC c ∧ ∀ q ∈ c.qs, q.bk.size ≠ 0 → q.id ∈ r
theorem P1.start {c : CL} (hV : VC c) : P1 (actL c.qs) c := ⟨hV, fun q hq hb => by
  have hd := ((hV.qs q hq).busy hb).2.2
  clear hV hb
  revert hq
  induction c.qs with
  | nil => intro h; cases h
  | cons a l ih =>
    intro hq
    rw [actL]
    rcases List.mem_cons.1 hq with rfl | hq
    · rw [if_neg (by rw [hd]; decide)]
      exact List.mem_cons_self ..
    · have := ih hq
      split
      · exact this
      · exact List.mem_cons_of_mem _ this⟩
theorem P1.idle {id : Int} {r : List Int} {c : CL} (h : P1 (id :: r) c) (hb : (findL c id).1.bk.size = 0) : P1 r c := ⟨h.1, fun q hq hq1 => by
  rcases List.mem_cons.1 (h.2 q hq hq1) with rfl | h1
  · rw [findL_of h.1 hq] at hb
    exact absurd hb hq1
  · exact h1⟩
theorem P1.busy {id : Int} {r : List Int} {c : CL} (h : P1 (id :: r) c) (hb : (findL c id).1.bk.size ≠ 0) : (endX c id).2 = 0 ∧ P1 r (endX c id).1 := by
  have h1 : ∃ q ∈ c.qs, q.id = id ∧ q.bk.size ≠ 0 := by
    unfold findL at hb
    cases hf : finQ id c.qs 0 with
    | none => rw [hf] at hb; exact absurd rfl hb
    | some i =>
      rw [hf] at hb
      obtain ⟨q, hq, hid⟩ := finQ_at hf
      rw [show (atQ c i, true).1 = q from atQ_of hq] at hb
      exact ⟨q, mem_at hq, hid, hb⟩
  obtain ⟨q, hq, rfl, hq1⟩ := h1
  obtain ⟨h2, h3, _⟩ := endX_at h.1 hq hq1
  refine ⟨h2, (endX_mv h.1 _).ok h.1, fun x hx hxb => ?_⟩
  rcases h3 x hx with ⟨_, h4, _⟩ | ⟨h4, h5⟩
  · exact absurd h4 hxb
  · rcases List.mem_cons.1 (h.2 x h4 hxb) with h6 | h6
    · exact absurd h6 h5
    · exact h6
/-! the rounds -/
/-- all calls that have not ended have at least so many attempts, and none is under way. -/
def RN (j : Int) (c : CL) : Prop := VC c ∧ (∀ q ∈ c.qs, q.bk.size = 0) ∧ ∀ q ∈ c.qs, q.dn = false → j ≤ q.att
theorem RN.zero {c : CL} (h : P1 [] c) : RN 0 c := ⟨h.1, fun q hq => by
  by_cases hb : q.bk.size = 0
  · exact hb
  · exact absurd (h.2 q hq hb) (by simp), fun q hq _ => (h.1.qs q hq).att.1⟩
theorem RN.done {c : CL} (h : RN c.ra c) : (∀ q ∈ c.qs, q.dn = true ∧ q.att ≤ c.ra) ∧ actL c.qs = [] := by
  have h1 : ∀ q ∈ c.qs, q.dn = true := fun q hq => by
    cases hd : q.dn with
    | true => rfl
    | false =>
      have h2 := h.2.2 q hq hd
      have h3 := ((h.1.qs q hq).rest hd (h.2.1 q hq)).2
      omega
  refine ⟨fun q hq => ⟨h1 q hq, (h.1.qs q hq).att.2⟩, ?_⟩
  have h2 := actL_count c.qs
  refine List.eq_nil_of_length_eq_zero ?_
  rw [h2, List.countP_eq_zero]
  intro q hq
  simp [h1 q hq]
/-- after Expire. -/
theorem exp_go (now : Int) : ∀ (n i : Nat) (c : CL) (j : Int), RN j c → i + n = c.qs.length → (∀ k x, k < i → c.qs[k]? = some x → x.dn = true ∨ passL x now = false) → RN j (expGo now n i c).1 ∧ ∀ x ∈ (expGo now n i c).1.qs, x.dn = true ∨ passL x now = false
  | 0, i, c, j, hR, hl, hp => ⟨hR, fun x hx => by
    obtain ⟨k, hk⟩ := List.getElem?_of_mem hx
    have := (List.getElem?_eq_some_iff.1 hk).1
    exact hp k x (by have h1 : k < c.qs.length := this; omega) hk⟩
  | n + 1, i, c, j, hR, hl, hp => by
    obtain ⟨q, hq⟩ : ∃ q, c.qs[i]? = some q := ⟨_, List.getElem?_eq_getElem (by omega)⟩
    rw [expGo]
    dsimp only
    rw [atQ_of hq]
    split
    · rename_i h
      have hV := hR.1
      have h1 := fini_mv hV hq h.1 now chk3
      have he := fini_eq hq (idle_st hV hq) 3 now
      have hl2 : (finiL c i 3 now).qs.length = c.qs.length := by rw [he]; exact List.length_modify _ _ _
      refine exp_go now n (i + 1) _ j ⟨h1.ok hV, fun x hx => ?_, fun x hx hd => ?_⟩ (by omega) (fun k x hk hx => ?_)
      · rw [he] at hx
        rcases mem_mod hx with hx | ⟨y, _, rfl⟩
        · exact hR.2.1 x hx
        · rfl
      · rw [he] at hx
        rcases mem_mod hx with hx | ⟨y, _, rfl⟩
        · exact hR.2.2 x hx hd
        · cases hd
      · rw [he] at hx
        have hx' : (c.qs.modify i _)[k]? = some x := hx
        rw [List.getElem?_modify] at hx'
        by_cases hik : i = k
        · subst hik
          rw [hq] at hx'
          rw [← Option.some.inj (by simpa using hx' : some _ = some x)]
          exact .inl rfl
        · cases hck : c.qs[k]? with
          | none => rw [hck] at hx'; cases hx'
          | some y =>
            rw [hck] at hx'
            obtain rfl : y = x := by simpa [hik] using hx'
            exact hp k y (by omega) hck
    · rename_i h
      refine exp_go now n (i + 1) c j hR (by omega) (fun k x hk hx => ?_)
      by_cases hik : i = k
      · subst hik
        rw [hq] at hx
        obtain rfl := Option.some.inj hx
        cases hd : q.dn with
        | true => exact .inl rfl
        | false =>
          cases hpl : passL q now with
          | false => exact .inr rfl
          | true => exact absurd ⟨hd, hpl⟩ h
      · exact hp k x (by omega) hx
theorem exp_rn {c : CL} {j : Int} (h : RN j c) (now : Int) : RN j (expiL c now).1 ∧ ∀ x ∈ (expiL c now).1.qs, x.dn = true ∨ passL x (clk now) = false :=
  exp_go (clk now) _ _ c j h (Nat.zero_add _) (fun _ _ h => absurd h (Nat.not_lt_zero _))
theorem pick_some {now : Int} {l : List BV} (h : l ≠ []) : ∃ k, pickL now l = some k := by
  have key : ∀ (r : List BV) (i : Nat) (p : Nat × BV), ∃ q, pickGo (clk now) r i (some p) = some q := by
    intro r
    induction r with
    | nil => intro i p; exact ⟨p, rfl⟩
    | cons a r ih => intro i p; obtain ⟨k, b⟩ := p; rw [pickGo_some]; split <;> exact ih _ _
  cases l with
  | nil => exact absurd rfl h
  | cons a r =>
    obtain ⟨q, hq⟩ := key r 1 (0, a)
    unfold pickL
    rw [pickGo_none, hq]
    exact ⟨q.1, rfl⟩
theorem modB_nil {f : BV → BV} {l : List BV} {k : Nat} (h : l ≠ []) : modB f l k ≠ [] := fun h1 => h (List.eq_nil_of_length_eq_zero (by rw [← modB_len f l k, h1]; rfl))
/-- Start begins every call that is due. -/
theorem start_all (now mo gn : Int) : ∀ (r : List QR) (bs : List BV) (tk : Int), bs ≠ [] → (∀ b ∈ bs, nmOk b.nm = true) → (∀ q ∈ r, q.dn = false → dueL now q = true) → (startGo now mo gn r bs tk).out = (startGo now mo gn r bs tk).qs.filter (fun q => !q.dn) ∧ ∀ x ∈ (startGo now mo gn r bs tk).qs, (x.dn = true ∧ x ∈ r) ∨ (x.dn = false ∧ x.bk.size ≠ 0 ∧ ∃ q ∈ r, q.dn = false ∧ x.att = q.att + 1)
  | [], _, _, _, _, _ => ⟨rfl, fun _ h => by cases h⟩
  | q :: r, bs, tk, h, hn, hd => by
    cases hq : q.dn with
    | true =>
      have hdu : dueL now q = false := by unfold dueL; rw [hq]; rfl
      rw [startGo_no (by rw [hdu]; rfl)]
      obtain ⟨h1, h2⟩ := start_all now mo gn r bs tk h hn (fun x hx => hd x (List.mem_cons_of_mem _ hx))
      refine ⟨?_, fun x hx => ?_⟩
      · show (startGo now mo gn r bs tk).out = List.filter _ (q :: _)
        rw [List.filter_cons, hq]
        exact h1
      · rcases List.mem_cons.1 hx with rfl | hx
        · exact .inl ⟨hq, List.mem_cons_self ..⟩
        · rcases h2 x hx with ⟨h3, h4⟩ | ⟨h3, h4, y, h5, h6⟩
          · exact .inl ⟨h3, List.mem_cons_of_mem _ h4⟩
          · exact .inr ⟨h3, h4, y, List.mem_cons_of_mem _ h5, h6⟩
    | false =>
      have hdu := hd q (List.mem_cons_self ..) hq
      obtain ⟨k, hk⟩ := pick_some (now := now) h
      obtain ⟨b, hb⟩ := pick_lt hk
      rw [startGo_yes (by rw [hdu]; exact hk)]
      have hbk : (begQ bs k q).bk = b.nm := by unfold begQ; rw [hb]
      obtain ⟨h1, h2⟩ := start_all now mo gn r (modB begB bs k) (if q.att + 1 = 1 then bfst tk mo gn else tk) (modB_nil h) (fun b hb => by
        rcases modB_mem hb with h1 | ⟨y, h1, rfl⟩
        · exact hn b h1
        · exact hn y h1) (fun x hx => hd x (List.mem_cons_of_mem _ hx))
      refine ⟨?_, fun x hx => ?_⟩
      · show begQ bs k q :: _ = List.filter _ (begQ bs k q :: _)
        rw [List.filter_cons, show (begQ bs k q).dn = false from hq]
        rw [h1]
        rfl
      · rcases List.mem_cons.1 hx with rfl | hx
        · exact .inr ⟨hq, by rw [hbk]; exact nmOk_size (hn b (List.mem_of_getElem? hb)), q, List.mem_cons_self .., hq, rfl⟩
        · rcases h2 x hx with ⟨h3, h4⟩ | ⟨h3, h4, y, h5, h6⟩
          · exact .inl ⟨h3, List.mem_cons_of_mem _ h4⟩
          · exact .inr ⟨h3, h4, y, List.mem_cons_of_mem _ h5, h6⟩
/-- what is left to be ended in a round. -/
structure RE (j : Int) (r : List QR) (d : CL) : Prop where
  ok : VC d
  at_ : ∀ q ∈ d.qs, q.dn = false → j + 1 ≤ q.att
  bus : ∀ q ∈ d.qs, q.bk.size ≠ 0 → ∃ p ∈ r, p.id = q.id
  got : ∀ p ∈ r, ∃ q ∈ d.qs, q.id = p.id ∧ q.bk.size ≠ 0
  nod : r.Pairwise (fun a b => a.id ≠ b.id)
  att : ∀ p ∈ r, p.att ≤ d.ra
theorem start_re {c : CL} {j : Int} (h : RN j c) (hp : ∀ x ∈ c.qs, x.dn = true ∨ passL x 1099511627776 = false) : RE j (startL c 1099511627776).2 (startL c 1099511627776).1 := by
  have hclk : clk 1099511627776 = 1099511627776 := by decide
  have hmv := start_mv c 1099511627776
  have hV := hmv.ok h.1
  have hcb := chkB_ok h.1.cb
  obtain ⟨h1, h2⟩ := start_all (clk 1099511627776) c.mo c.gn c.qs c.bs c.tk h.1.bl (fun b hb => (hcb.2 b hb).2) (fun q hq hd => by
    have h3 := (h.1.qs q hq).nx
    have h4 : passL q 1099511627776 = false := by
      rcases hp q hq with h5 | h5
      · rw [hd] at h5; cases h5
      · exact h5
    unfold dueL
    rw [hclk, hd, h4]
    simp [h.2.1 q hq]
    omega)
  have h3 : (startL c 1099511627776).2 = (startL c 1099511627776).1.qs.filter (fun q => !q.dn) := h1
  refine ⟨hV, fun x hx hd => ?_, fun x hx hb => ?_, fun p hp => ?_, ?_, fun p hp => ?_⟩
  · rcases h2 x hx with ⟨h4, _⟩ | ⟨_, _, y, h5, h6, h7⟩
    · rw [hd] at h4; cases h4
    · have := h.2.2 y h5 h6
      omega
  · refine ⟨x, ?_, rfl⟩
    rw [h3, List.mem_filter]
    exact ⟨hx, by rw [((hV.qs x hx).busy hb).2.2]; rfl⟩
  · rw [h3, List.mem_filter] at hp
    have hpd : p.dn = false := by simpa using hp.2
    refine ⟨p, hp.1, rfl, ?_⟩
    rcases h2 p hp.1 with ⟨h4, _⟩ | ⟨_, h5, _⟩
    · rw [hpd] at h4; cases h4
    · exact h5
  · rw [h3]
    exact (hV.ord.imp (fun h => by omega)).sublist List.filter_sublist
  · rw [h3, List.mem_filter] at hp
    exact (hV.qs p hp.1).att.2
theorem RE.next {j : Int} {p : QR} {r : List QR} {d : CL} (h : RE j (p :: r) d) : (endX d p.id).2 = 0 ∧ RE j r (endX d p.id).1 := by
  obtain ⟨q, hq, hid, hb⟩ := h.got p (List.mem_cons_self ..)
  obtain ⟨h1, h2, h3⟩ := endX_at h.ok hq hb
  rw [hid] at h1 h2 h3
  have hmv := endX_mv h.ok p.id
  have hne := List.pairwise_cons.1 h.nod
  refine ⟨h1, hmv.ok h.ok, fun x hx hd => ?_, fun x hx hxb => ?_, fun y hy => ?_, hne.2, fun y hy => ?_⟩
  · rcases h2 x hx with ⟨_, _, h4⟩ | ⟨h4, _⟩
    · rw [h4]
      exact h.at_ q hq (((h.ok.qs q hq).busy hb).2.2)
    · exact h.at_ x h4 hd
  · rcases h2 x hx with ⟨_, h4, _⟩ | ⟨h4, h5⟩
    · exact absurd h4 hxb
    · obtain ⟨y, hy, hyi⟩ := h.bus x h4 hxb
      rcases List.mem_cons.1 hy with rfl | hy
      · exact absurd hyi.symm h5
      · exact ⟨y, hy, hyi⟩
  · obtain ⟨z, hz, hzi, hzb⟩ := h.got y (List.mem_cons_of_mem _ hy)
    exact ⟨z, h3 z hz (fun he => hne.1 y hy (he.symm.trans hzi)), hzi, hzb⟩
  · rw [hmv.pol.1]
    exact h.att y (List.mem_cons_of_mem _ hy)
theorem RE.done {j : Int} {d : CL} (h : RE j [] d) : RN (j + 1) d := ⟨h.ok, (fun q hq => by
  by_cases hb : q.bk.size = 0
  · exact hb
  · obtain ⟨p, hp, _⟩ := h.bus q hq hb
    cases hp), h.at_⟩
end Go.Proofs.YtmdkfbmpenohiaaDoor.Y
