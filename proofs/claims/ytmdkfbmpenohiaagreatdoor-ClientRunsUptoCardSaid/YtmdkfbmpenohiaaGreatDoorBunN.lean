/- Texts of this claim merged into one: Inv, Inv2, Inv3, Inv4. -/
import Derived.Test.YtmdkfbmpenohiaaGreatDoorBunCA
namespace Go.Proofs.YtmdkfbmpenohiaaGreatDoor.Y
open Go.RowKit
structure y4 where
  kd : Int
  id : Int
  n : Int
  now : Int
  q : QR
  msg : ByteArray
  cd : Int
  tx : ByteArray
  safe : Bool
structure xt where
  e : Int
  id : Int
  qs : List QR
  ids : List Int
def aX (c : CL) (o : y4) : CL × xt :=
  if o.kd = 0 then ((ci c o.now o.q).1, ⟨(ci c o.now o.q).2.2, (ci c o.now o.q).2.1, [], []⟩)
  else if o.kd = 1 then ((cD c o.now).1, ⟨0, 0, (cD c o.now).2, []⟩)
  else if o.kd = 2 then ((cC c o.id o.n).1, ⟨(cC c o.id o.n).2, 0, [], []⟩)
  else if o.kd = 3 then ((cy c o.id o.msg).1, ⟨(cy c o.id o.msg).2, 0, [], []⟩)
  else if o.kd = 4 then ((de c o.now o.id o.cd o.tx o.safe).1, ⟨(de c o.now o.id o.cd o.tx o.safe).2, 0, [], []⟩)
  else if o.kd = 5 then ((cR c o.now o.id).1, ⟨(cR c o.now o.id).2, 0, [], []⟩)
  else if o.kd = 6 then ((df c o.now).1, ⟨0, 0, [], (df c o.now).2⟩)
  else (c, ⟨0, 0, [], []⟩)
def oP (sh : Int) (n : Nat) : Bool := decide (c4 sh < 0) || decide ((n : Int) ≤ c4 sh)
def xU (bs : List BV) (s : ByteArray) : Prop := ∃ b ∈ bs, b.nm = s
structure VQ (ra : Int) (bs : List BV) (q : QR) : Prop where
  hd : bH q.hd = 0
  sh : kC q.sh = true
  pm : iL q.mg.length (c1 q.sh) (c2 q.sh) = true
  lg : cL q.mg = false
  la : cL q.an = false
  ans : oP q.sh q.an.length = true
  att : 0 ≤ q.att ∧ q.att ≤ ra
  st : 0 ≤ q.st ∧ q.st ≤ 2147483647
  nx : 0 ≤ q.nx ∧ q.nx ≤ 1099511627776
  idle : q.bk.size = 0 → q.st = 0
  busy : q.bk.size ≠ 0 → xU bs q.bk ∧ 1 ≤ q.att ∧ q.dn = false
  over : q.dn = true → be q.cd q.tx = 0
  yet : q.dn = false → q.cd = 0 ∧ q.tx.size = 0
  rest : q.dn = false → q.bk.size = 0 → q.an.length = 0 ∧ q.att < ra
structure VC (c : CL) : Prop where
  cb : fu c.bs = 0
  bl : c.bs ≠ []
  re : eV c.ra c.rb c.rc c.rk = 0
  bu : da c.tk c.mo c.gn = 0
  nx : 1 ≤ c.nx ∧ c.nx ≤ 2147483648
  ac : (bQ c.qs).length ≤ 64
  lo : ∀ q ∈ c.qs, 1 ≤ q.id ∧ q.id < c.nx
  ord : c.qs.Pairwise (fun a b => a.id < b.id)
  qs : ∀ q ∈ c.qs, VQ c.ra c.bs q
theorem kG (n : Int) : 0 ≤ bI n ∧ bI n ≤ 1099511627776 := by unfold bI cp; omega
theorem tY {a b : ByteArray} : rI a b = true ↔ a = b := by
  unfold rI
  rw [beq_iff_eq, ByteArray.toList_eq, ByteArray.toList_eq]
  exact ⟨fun h => ByteArray.ext (Array.ext' h), fun h => by rw [h]⟩
theorem yC {s : ByteArray} : s.size = 0 ↔ s = aZ := by
  constructor
  · intro h
    exact ByteArray.ext (Array.eq_empty_of_size_eq_zero h)
  · rintro rfl; rfl
theorem kH {f : BV → BV} (hf : ∀ b, (f b).nm = b.nm) : ∀ (l : List BV) (k : Nat), (bR f l k).map (·.nm) = l.map (·.nm)
  | [], _ => rfl
  | b :: r, 0 => by simp [bR, hf]
  | b :: r, k + 1 => by simp [bR, kH hf r k]
theorem qY {bs : List BV} {s : ByteArray} : xU bs s ↔ s ∈ bs.map (·.nm) := by
  unfold xU; rw [List.mem_map]
theorem xu {a b : List BV} (h : a.map (·.nm) = b.map (·.nm)) {s : ByteArray} : xU a s ↔ xU b s := by rw [qY, qY, h]
theorem nH (b : BV) : (cG b).nm = b.nm := rfl
theorem qZ (code now : Int) (b : BV) : (db code now b).nm = b.nm := by
  unfold db
  dsimp only
  split
  · split <;> rfl
  · split <;> rfl
def mI (p : Option ByteArray) (b : BV) : Bool := match p with | some x => (Op.bytesLess b.nm.toList x.toList || b.nm.toList == x.toList) | none => false
theorem mJ {p : Option ByteArray} {b : BV} {r : List BV} (h : eM p (b :: r) = 0) : eO b.nm = true ∧ mI p b = false ∧ dK b = true ∧ eM (some b.nm) r = 0 := by
  have h0 : (if eO b.nm = false then 8 else if mI p b = true then 11 else if dK b = false then 1 else eM (some b.nm) r) = (0 : Int) := by rw [iY] at h; exact h
  by_cases h1 : eO b.nm = false
  · rw [if_pos h1] at h0; cases h0
  · rw [if_neg h1] at h0
    by_cases h2 : mI p b = true
    · rw [if_pos h2] at h0; cases h0
    · rw [if_neg h2] at h0
      by_cases h3 : dK b = false
      · rw [if_pos h3] at h0; cases h0
      · rw [if_neg h3] at h0
        exact ⟨by simpa using h1, by simpa using h2, by simpa using h3, h0⟩
theorem oQ {p : Option ByteArray} {b : BV} {r : List BV} (h1 : eO b.nm = true) (h2 : mI p b = false) (h3 : dK b = true) (h4 : eM (some b.nm) r = 0) : eM p (b :: r) = 0 := by
  rw [iY]
  show (if eO b.nm = false then 8 else if mI p b = true then 11 else if dK b = false then 1 else eM (some b.nm) r) = (0 : Int)
  rw [h1, h2, h3, h4]
  rfl
theorem mK {f : BV → BV} (hf : ∀ b, (f b).nm = b.nm) (hk : ∀ b, dK b = true → dK (f b) = true) : ∀ (l : List BV) (k : Nat) (p : Option ByteArray), eM p l = 0 → eM p (bR f l k) = 0
  | [], _, _, h => h
  | b :: r, k, p, h => by
    obtain ⟨h1, h2, h3, h4⟩ := mJ h
    cases k with
    | zero => exact oQ (by rw [hf]; exact h1) (by unfold mI at h2 ⊢; rw [hf]; exact h2) (hk b h3) (by rw [hf]; exact h4)
    | succ k => exact oQ h1 h2 h3 (mK hf hk r k _ h4)
theorem oR {f : BV → BV} (hf : ∀ b, (f b).nm = b.nm) (hk : ∀ b, dK b = true → dK (f b) = true) {l : List BV} (k : Nat) (h : fu l = 0) : fu (bR f l k) = 0 := by
  unfold fu at h ⊢
  rw [eg]
  split at h
  · cases h
  · rename_i h1
    rw [if_neg h1]
    exact mK hf hk l k _ h
theorem oS : ∀ (l : List BV) (p : Option ByteArray), eM p l = 0 → ∀ b ∈ l, dK b = true ∧ eO b.nm = true
  | [], _, _ => fun _ h => by cases h
  | a :: r, p, h => fun b hb => by
    obtain ⟨h1, h2, h3, h4⟩ := mJ h
    rcases List.mem_cons.1 hb with rfl | hb
    · exact ⟨h3, h1⟩
    · exact oS r _ h4 b hb
theorem gH {l : List BV} (h : fu l = 0) : l.length ≤ 8 ∧ ∀ b ∈ l, dK b = true ∧ eO b.nm = true := by
  unfold fu at h
  split at h
  · cases h
  · exact ⟨by omega, oS l _ h⟩
theorem mL {s : ByteArray} (h : eO s = true) : s.size ≠ 0 := by
  unfold eO at h
  simp at h
  omega
def An (a b : ByteArray) : Prop := Op.bytesLess a.toList b.toList = true
theorem j4 {nm : ByteArray} : ∀ {l : List BV} {k : Nat}, xU l nm → ∃ i, eA nm l k = some i
  | [], _, ⟨_, h, _⟩ => by cases h
  | a :: r, k, ⟨b, hb, hn⟩ => by
    rw [eA]
    split
    · exact ⟨_, rfl⟩
    · rename_i h1
      rcases List.mem_cons.1 hb with rfl | hb
      · exact absurd (tY.2 hn) h1
      · exact j4 ⟨b, hb, hn⟩
theorem nI {α : Type} {g : α → α} : ∀ {l : List α} {i : Nat} {x : α}, x ∈ l.modify i g → x ∈ l ∨ ∃ y, l[i]? = some y ∧ x = g y
  | [], i, x, h => by simp at h
  | a :: l, 0, x, h => by
    simp only [List.modify_zero_cons, List.mem_cons] at h
    rcases h with rfl | h
    · exact .inr ⟨a, rfl, rfl⟩
    · exact .inl (List.mem_cons_of_mem _ h)
  | a :: l, i + 1, x, h => by
    simp only [List.modify_succ_cons, List.mem_cons] at h
    rcases h with rfl | h
    · exact .inl (List.mem_cons_self ..)
    · rcases nI h with h | ⟨y, h1, h2⟩
      · exact .inl (List.mem_cons_of_mem _ h)
      · exact .inr ⟨y, by simpa using h1, h2⟩
theorem q3 {α β : Type} {g : α → α} {f : α → β} (hf : ∀ a, f (g a) = f a) : ∀ (l : List α) (i : Nat), (l.modify i g).map f = l.map f
  | [], _ => by simp
  | a :: l, 0 => by simp [hf]
  | a :: l, i + 1 => by simp [q3 hf l i]
theorem j5 {α : Type} {g : α → α} (p : α → Bool) : ∀ {l : List α} {i : Nat} {x : α}, l[i]? = some x → (l.modify i g).countP p + (if p x then 1 else 0) = l.countP p + (if p (g x) then 1 else 0)
  | [], i, x, h => by simp at h
  | a :: l, 0, x, h => by
    obtain rfl : a = x := by simpa using h
    simp only [List.modify_zero_cons, List.countP_cons]
    omega
  | a :: l, i + 1, x, h => by
    have ih := j5 (g := g) p (l := l) (i := i) (x := x) (by simpa using h)
    simp only [List.modify_succ_cons, List.countP_cons]
    omega
theorem q4 {α : Type} (g : α → α) : ∀ (l : List α) (x : α) (r : List α), (l ++ x :: r).modify l.length g = l ++ g x :: r
  | [], x, r => by simp
  | a :: l, x, r => by simp [q4 g l x r]
theorem kI {α : Type} (f g : α → α) : ∀ (l : List α) (i : Nat), (l.modify i f).modify i g = l.modify i (fun x => g (f x))
  | [], i => by simp
  | a :: l, 0 => by simp
  | a :: l, i + 1 => by simp [kI f g l i]
theorem i5 : ∀ l : List QR, (bQ l).length = l.countP (fun q => !q.dn)
  | [] => rfl
  | q :: r => by
    have ih := i5 r
    rw [bQ, List.countP_cons]
    cases q.dn <;> simp [ih]
def kv (c : CL) (i : Nat) (g : QR → QR) (bs : List BV) (tk : Int) : CL := { c with bs := bs, qs := c.qs.modify i g, tk := tk }
def fC (c : CL) (q : QR) (code now : Int) : List BV := if q.bk.size = 0 then c.bs else match eA q.bk c.bs 0 with | some k => bR (db code now) c.bs k | none => c.bs
inductive Mv : CL → Nat → List QR → CL → Prop
  | refl (c : CL) : Mv c 0 [] c
  | trans {c d e : CL} {m n : Nat} {l r : List QR} : Mv c m l d → Mv d n r e → Mv c (m + n) (l ++ r) e
  | app {c : CL} (q : QR) : VQ c.ra c.bs q → q.id = c.nx → q.bk.size = 0 → q.att = 0 → q.an.length = 0 → q.ms.length ≤ 4398046511104 → q.mg.length ≤ 8796093022208 → c.nx ≤ 2147483647 → (bQ c.qs).length < 64 → Mv c 1 [] { c with qs := c.qs ++ [q], nx := c.nx + 1 }
  | snt {c : CL} {i : Nat} {q : QR} (st : Int) : c.qs[i]? = some q → q.bk.size ≠ 0 → 1 ≤ st → st ≤ 2147483647 → Mv c 0 [] (kv c i (fun q => { q with st := st }) c.bs c.tk)
  | rcv {c : CL} {i : Nat} {q : QR} (m : ByteArray) : c.qs[i]? = some q → q.bk.size ≠ 0 → m.size ≤ 16384 → oP q.sh (q.an.length + 1) = true → Mv c 1 [] (kv c i (fun q => { q with an := q.an ++ [m] }) c.bs c.tk)
  | fin {c : CL} {i : Nat} {q : QR} (code now cd : Int) (tx : ByteArray) : c.qs[i]? = some q → q.dn = false → be cd tx = 0 → Mv c 0 [] (kv c i (fun q => { q with bk := aZ, st := 0, dn := true, cd := cd, tx := tx }) (fC c q code now) c.tk)
  | ret {c : CL} {i : Nat} {q : QR} (code now nx : Int) : c.qs[i]? = some q → q.bk.size ≠ 0 → q.an.length = 0 → q.att < c.ra → 1000 ≤ c.tk → 0 ≤ nx → nx ≤ 1099511627776 → Mv c 0 [] (kv c i (fun q => { q with bk := aZ, st := 0, nx := nx }) (fC c q code now) (c.tk - 1000))
  | beg {c : CL} {i k : Nat} {q : QR} {b : BV} : c.qs[i]? = some q → q.dn = false → q.bk.size = 0 → c.bs[k]? = some b → Mv c 0 [f0 c.bs k q] (kv c i (f0 c.bs k) (bR cG c.bs k) (if q.att + 1 = 1 then dt c.tk c.mo c.gn else c.tk))
theorem jx (c : CL) (q : QR) (code now : Int) : (fC c q code now).map (·.nm) = c.bs.map (·.nm) := by
  unfold fC
  split
  · rfl
  · split
    · exact kH (qZ code now) _ _
    · rfl
theorem mM {c : CL} (q : QR) (code now : Int) (h : fu c.bs = 0) : fu (fC c q code now) = 0 := by
  unfold fC
  split
  · exact h
  · split
    · exact oR (qZ code now) (fun _ => qW) _ h
    · exact h
theorem VQ.of {ra : Int} {a b : List BV} {q : QR} (h : VQ ra a q) (hn : b.map (·.nm) = a.map (·.nm)) : VQ ra b q := { h with busy := fun h1 => ⟨(xu hn).2 (h.busy h1).1, (h.busy h1).2⟩ }
theorem VC.one {c : CL} (h : VC c) {i : Nat} {q : QR} {g : QR → QR} {bs : List BV} {tk : Int} (hq : c.qs[i]? = some q) (hc : fu bs = 0) (hn : bs.map (·.nm) = c.bs.map (·.nm)) (ht : da tk c.mo c.gn = 0) (hid : ∀ q, (g q).id = q.id) (hd : (g q).dn = false → q.dn = false) (hg : VQ c.ra c.bs (g q)) : VC (kv c i g bs tk) := by
  have hm : ((c.qs.modify i g).map (·.id)) = c.qs.map (·.id) := q3 hid _ _
  refine ⟨hc, ?_, h.re, ht, h.nx, ?_, ?_, ?_, ?_⟩
  · intro h0
    have h1 : bs = [] := h0
    rw [h1] at hn
    exact h.bl (List.map_eq_nil_iff.1 hn.symm)
  · show (bQ (c.qs.modify i g)).length ≤ 64
    have h1 := j5 (g := g) (fun q => !q.dn) hq
    have h2 := h.ac
    rw [i5] at h2 ⊢
    cases hq1 : q.dn <;> cases hq2 : (g q).dn <;> simp [hq1, hq2] at h1 hd <;> omega
  · intro x hx
    have h1 : x.id ∈ (c.qs.modify i g).map (·.id) := List.mem_map_of_mem hx
    rw [hm] at h1
    obtain ⟨y, hy, hxy⟩ := List.mem_map.1 h1
    rw [← hxy]
    exact h.lo y hy
  · have h1 := h.ord
    show (c.qs.modify i g).Pairwise _
    have h2 : ((c.qs.modify i g).map (·.id)).Pairwise (· < ·) := by rw [hm]; exact List.pairwise_map.2 h1
    exact List.pairwise_map.1 h2
  · intro x hx
    rcases nI hx with hx | ⟨y, hy, rfl⟩
    · exact (h.qs x hx).of hn
    · rw [hq] at hy
      obtain rfl := Option.some.inj hy
      exact hg.of hn
theorem dI {l : List QR} {i : Nat} {q : QR} (h : l[i]? = some q) : q ∈ l := List.mem_of_getElem? h
theorem vN {t m gn : Int} (h : da t m gn = 0) : da (dt t m gn) m gn = 0 ∧ dt t m gn ≤ t + gn := by
  obtain ⟨h1, h2, h3, h4, h5⟩ := gj h
  unfold dt
  rw [if_pos h]
  unfold da
  refine ⟨?_, by omega⟩
  rw [if_neg (by omega)]
theorem r8 (a b : List ByteArray) : cL (a ++ b) = (cL a || cL b) := by unfold cL; rw [List.any_append]
theorem Mv.ok {c d : CL} {n : Nat} {l : List QR} (h : Mv c n l d) : VC c → VC d := by
  induction h with
  | refl => exact id
  | trans _ _ h1 h2 => exact fun h => h2 (h1 h)
  | @app c q hv hi hb ha hn _ _ hx h64 =>
    intro h
    have hnx := h.nx
    refine ⟨h.cb, h.bl, h.re, h.bu, ⟨by show 1 ≤ c.nx + 1; omega, by show c.nx + 1 ≤ _; omega⟩, ?_, ?_, ?_, ?_⟩
    · show (bQ (c.qs ++ [q])).length ≤ 64
      rw [dL, List.length_append]
      have h1 := jr [q]
      simp only [List.length_singleton] at h1
      omega
    · intro x hx
      show 1 ≤ x.id ∧ x.id < c.nx + 1
      rcases List.mem_append.1 hx with hx | hx
      · have := h.lo x hx
        omega
      · obtain rfl := List.mem_singleton.1 hx
        omega
    · show (c.qs ++ [q]).Pairwise _
      rw [List.pairwise_append]
      refine ⟨h.ord, List.pairwise_singleton _ _, fun a hac b hb => ?_⟩
      obtain rfl := List.mem_singleton.1 hb
      have := h.lo a hac
      omega
    · intro x hx
      rcases List.mem_append.1 hx with hx | hx
      · exact h.qs x hx
      · obtain rfl := List.mem_singleton.1 hx
        exact hv
  | @snt c i q st hq hb h1 h2 =>
    intro h
    have hv := h.qs q (dI hq)
    exact h.one hq h.cb rfl h.bu (fun _ => rfl) id { hv with st := ⟨by show 0 ≤ st; omega, h2⟩, idle := fun h0 => absurd h0 hb }
  | @rcv c i q m hq hb h1 h2 =>
    intro h
    have hv := h.qs q (dI hq)
    refine h.one hq h.cb rfl h.bu (fun _ => rfl) id { hv with la := ?_, ans := ?_, rest := fun _ h0 => absurd h0 hb }
    · show cL (q.an ++ [m]) = false
      rw [r8, hv.la]
      simp [cL]
      omega
    · show oP q.sh (q.an ++ [m]).length = true
      rw [List.length_append]
      exact h2
  | @fin c i q code now cd tx hq hd hk =>
    intro h
    have hv := h.qs q (dI hq)
    refine h.one hq (mM _ _ _ h.cb) (jx _ _ _ _) h.bu (fun _ => rfl) (fun h => by cases h) { hv with st := ⟨Int.le_refl _, by show (0 : Int) ≤ _; decide⟩, idle := fun _ => rfl, busy := fun h0 => absurd rfl h0, over := fun _ => hk, yet := fun h => (by cases h), rest := fun h => (by cases h) }
  | @ret c i q code now nx hq hb ha hr ht h0 h1 =>
    intro h
    have hv := h.qs q (dI hq)
    have hbu := gj h.bu
    refine h.one hq (mM _ _ _ h.cb) (jx _ _ _ _) ?_ (fun _ => rfl) id { hv with st := ⟨Int.le_refl _, by show (0 : Int) ≤ _; decide⟩, nx := ⟨h0, h1⟩, idle := fun _ => rfl, busy := fun h0 => absurd rfl h0, rest := fun _ _ => ⟨ha, hr⟩ }
    unfold da
    rw [if_neg (by omega)]
  | @beg c i k q b hq hd hb hk =>
    intro h
    have hv := h.qs q (dI hq)
    have hr := hv.rest hd hb
    have hnm := gH h.cb
    have hbb := (hnm.2 b (List.mem_of_getElem? hk)).2
    have hbk : (f0 c.bs k q).bk = b.nm := by unfold f0; rw [hk]
    have hdn : (f0 c.bs k q).dn = q.dn := rfl
    refine h.one hq (oR nH (fun _ => nD) _ h.cb) (kH nH _ _) ?_ (fun _ => rfl) id { hv with att := ⟨by show 0 ≤ q.att + 1; have := hv.att; omega, by show q.att + 1 ≤ _; omega⟩, idle := fun h0 => ?_, busy := fun _ => ⟨?_, ?_, hd⟩, rest := fun _ h0 => ?_ }
    · split
      · exact (vN h.bu).1
      · exact h.bu
    · rw [hbk] at h0
      exact absurd h0 (mL hbb)
    · rw [hbk]
      exact ⟨b, List.mem_of_getElem? hk, rfl⟩
    · show 1 ≤ q.att + 1
      have := hv.att
      omega
    · rw [hbk] at h0
      exact absurd h0 (mL hbb)
end Go.Proofs.YtmdkfbmpenohiaaGreatDoor.Y
namespace Go.Proofs.YtmdkfbmpenohiaaGreatDoor.Y
open Go.RowKit
theorem Mv.pol {c d : CL} {n : Nat} {l : List QR} (h : Mv c n l d) : d.ra = c.ra ∧ d.rb = c.rb ∧ d.rc = c.rc ∧ d.rk = c.rk ∧ d.mo = c.mo ∧ d.gn = c.gn ∧ d.bs.map (·.nm) = c.bs.map (·.nm) := by
  induction h with
  | refl => exact ⟨rfl, rfl, rfl, rfl, rfl, rfl, rfl⟩
  | trans _ _ h1 h2 => exact ⟨h2.1.trans h1.1, h2.2.1.trans h1.2.1, h2.2.2.1.trans h1.2.2.1, h2.2.2.2.1.trans h1.2.2.2.1, h2.2.2.2.2.1.trans h1.2.2.2.2.1, h2.2.2.2.2.2.1.trans h1.2.2.2.2.2.1, h2.2.2.2.2.2.2.trans h1.2.2.2.2.2.2⟩
  | app => exact ⟨rfl, rfl, rfl, rfl, rfl, rfl, rfl⟩
  | snt => exact ⟨rfl, rfl, rfl, rfl, rfl, rfl, rfl⟩
  | rcv => exact ⟨rfl, rfl, rfl, rfl, rfl, rfl, rfl⟩
  | fin => exact ⟨rfl, rfl, rfl, rfl, rfl, rfl, jx _ _ _ _⟩
  | ret => exact ⟨rfl, rfl, rfl, rfl, rfl, rfl, jx _ _ _ _⟩
  | beg => exact ⟨rfl, rfl, rfl, rfl, rfl, rfl, kH nH _ _⟩
def SzM (m : Nat) (c : CL) : Prop := c.qs.length ≤ m ∧ ∀ q ∈ c.qs, q.ms.length ≤ 4398046511104 ∧ q.mg.length ≤ 8796093022208 ∧ q.an.length ≤ m
theorem SzM.one {m n : Nat} {c : CL} (h : SzM m c) {i : Nat} {q : QR} {g : QR → QR} {bs : List BV} {tk : Int} (hq : c.qs[i]? = some q) (h1 : (g q).ms = q.ms) (h2 : (g q).mg = q.mg) (h3 : (g q).an.length ≤ q.an.length + n) : SzM (m + n) (kv c i g bs tk) := by
  refine ⟨?_, fun x hx => ?_⟩
  · show (c.qs.modify i g).length ≤ _
    rw [List.length_modify]
    have := h.1
    omega
  · rcases nI hx with hx | ⟨y, hy, rfl⟩
    · obtain ⟨h4, h5, h6⟩ := h.2 x hx
      exact ⟨h4, h5, by omega⟩
    · rw [hq] at hy
      obtain rfl := Option.some.inj hy
      obtain ⟨h4, h5, h6⟩ := h.2 q (dI hq)
      rw [h1, h2]
      exact ⟨h4, h5, by omega⟩
theorem Mv.sz {c d : CL} {n : Nat} {l : List QR} (h : Mv c n l d) : ∀ {m : Nat}, SzM m c → SzM (m + n) d := by
  induction h with
  | refl => exact fun h => h
  | trans _ _ h1 h2 => exact fun h => by rw [← Nat.add_assoc]; exact h2 (h1 h)
  | @app c q hv hi hb ha hn hm hg hx h64 =>
    intro m h
    refine ⟨?_, fun x hx => ?_⟩
    · show (c.qs ++ [q]).length ≤ _
      rw [List.length_append]
      have := h.1
      simp only [List.length_singleton]
      omega
    · rcases List.mem_append.1 hx with hx | hx
      · obtain ⟨h4, h5, h6⟩ := h.2 x hx
        exact ⟨h4, h5, by omega⟩
      · obtain rfl := List.mem_singleton.1 hx
        exact ⟨hm, hg, by omega⟩
  | snt _ hq => exact fun h => h.one hq J J (Nat.le_refl _)
  | rcv _ hq => exact fun h => h.one hq J J (by rw [List.length_append]; exact Nat.le_refl _)
  | fin _ _ _ _ hq => exact fun h => h.one hq J J (Nat.le_refl _)
  | ret _ _ _ hq => exact fun h => h.one hq J J (Nat.le_refl _)
  | beg hq => exact fun h => h.one hq J J (Nat.le_refl _)
theorem Mv.len {c d : CL} {n : Nat} {l : List QR} (h : Mv c n l d) : c.qs.length ≤ d.qs.length := by
  induction h with
  | refl => exact Nat.le_refl _
  | trans _ _ h1 h2 => exact Nat.le_trans h1 h2
  | @app c q => exact (by show c.qs.length ≤ (c.qs ++ [q]).length; rw [List.length_append]; omega)
  | snt => exact Nat.le_of_eq (List.length_modify _ _ _).symm
  | rcv => exact Nat.le_of_eq (List.length_modify _ _ _).symm
  | fin => exact Nat.le_of_eq (List.length_modify _ _ _).symm
  | ret => exact Nat.le_of_eq (List.length_modify _ _ _).symm
  | beg => exact Nat.le_of_eq (List.length_modify _ _ _).symm
def zw (q p : QR) : Prop := p.id = q.id ∧ (q.dn = true → p = q)
def Keeps (c d : CL) : Prop := ∀ (i : Nat) (q : QR), c.qs[i]? = some q → ∃ p, d.qs[i]? = some p ∧ zw q p
theorem Keeps.refl (c : CL) : Keeps c c := fun _ q h => ⟨q, h, rfl, fun _ => rfl⟩
theorem Keeps.trans {a b c : CL} (h1 : Keeps a b) (h2 : Keeps b c) : Keeps a c := fun i q h => by
  obtain ⟨p, h3, h4, h5⟩ := h1 i q h
  obtain ⟨r, h6, h7, h8⟩ := h2 i p h3
  exact ⟨r, h6, h7.trans h4, fun hd => by have h9 := h5 hd; subst h9; exact h8 hd⟩
theorem Keeps.one {c : CL} {i : Nat} {q : QR} {g : QR → QR} {bs : List BV} {tk : Int} (hq : c.qs[i]? = some q) (hid : (g q).id = q.id) (hd : q.dn = false) : Keeps c (kv c i g bs tk) := fun j p hp => by
  show ∃ p', (c.qs.modify i g)[j]? = some p' ∧ _
  rw [List.getElem?_modify, hp]
  by_cases h : i = j
  · subst h
    rw [hq] at hp
    obtain rfl := Option.some.inj hp
    exact ⟨g q, by simp, hid, fun h => by rw [hd] at h; cases h⟩
  · exact ⟨p, by simp [h], rfl, fun _ => rfl⟩
theorem vO {c : CL} (h : VC c) {i : Nat} {q : QR} (hq : c.qs[i]? = some q) (hb : q.bk.size ≠ 0) : q.dn = false := ((h.qs q (dI hq)).busy hb).2.2
def xv (qs : List QR) (s : ByteArray) : Nat := qs.countP (fun q => rI q.bk s)
def BZ (c : CL) : Prop := ∀ b ∈ c.bs, b.bs = (xv c.qs b.nm : Int)
def bt (b : Bool) : Int := if b then 1 else 0
theorem BZ.one {c : CL} (h : BZ c) {i : Nat} {q : QR} {g : QR → QR} {bs : List BV} {tk : Int} (hq : c.qs[i]? = some q) (hc : ∀ (j : Nat) (a' : BV), bs[j]? = some a' → ∃ a : BV, c.bs[j]? = some a ∧ a'.nm = a.nm ∧ a'.bs + bt (rI q.bk a.nm) = a.bs + bt (rI (g q).bk a.nm)) : BZ (kv c i g bs tk) := by
  intro b hb
  obtain ⟨j, hj⟩ := List.getElem?_of_mem hb
  obtain ⟨a, h1, h2, h3⟩ := hc j b hj
  have h4 := h a (List.mem_of_getElem? h1)
  have h5 := j5 (g := g) (fun q => rI q.bk a.nm) hq
  show b.bs = (xv (c.qs.modify i g) b.nm : Int)
  rw [h2]
  unfold xv at h4 ⊢
  unfold bt at h3
  cases hx : rI q.bk a.nm <;> cases hy : rI (g q).bk a.nm <;> simp [hx, hy] at h3 h5 <;> omega
def zx (q : QR) : Bool := !q.dn && decide (q.bk.size = 0) && decide (1 ≤ q.att)
def Ao (c : CL) : Int := 1000 * (c.qs.countP zx : Int) + c.tk
def Ap (q : QR) : Bool := decide (q.att = 1)
end Go.Proofs.YtmdkfbmpenohiaaGreatDoor.Y
namespace Go.Proofs.YtmdkfbmpenohiaaGreatDoor.Y
open Go.RowKit
theorem oT {α : Type} {g : α → α} : ∀ {l : List α} {i : Nat} {x : α}, l[i]? = some x → g x = x → l.modify i g = l
  | [], i, x, h, _ => by simp at h
  | a :: l, 0, x, h, hg => by
    obtain rfl : a = x := by simpa using h
    simp [hg]
  | a :: l, i + 1, x, h, hg => by simp [oT (l := l) (i := i) (x := x) (by simpa using h) hg]
theorem qh {α : Type} {g : α → α} {l : List α} {i : Nat} {x : α} (h : l[i]? = some x) : (l.modify i g)[i]? = some (g x) := by
  rw [List.getElem?_modify, h]; simp
theorem nJ {α : Type} {f g : α → α} : ∀ {l : List α} {i : Nat} {x : α}, l[i]? = some x → f x = g x → l.modify i f = l.modify i g
  | [], i, x, h, _ => by simp at h
  | a :: l, 0, x, h, hg => by
    obtain rfl : a = x := by simpa using h
    simp [hg]
  | a :: l, i + 1, x, h, hg => by simp [nJ (l := l) (i := i) (x := x) (by simpa using h) hg]
theorem ek {c : CL} {i : Nat} {q : QR} (h : c.qs[i]? = some q) : i9 c i = q := by
  unfold i9; rw [List.getD_eq_getElem?_getD, h]; rfl
theorem oU {c : CL} {q : QR} (h : dv c q = 0) : eB q = false ∧ c2 q.sh ≠ 0 ∧ iL q.mg.length (c1 q.sh) (c2 q.sh) = true ∧ bH q.hd = 0 ∧ cL q.mg = false ∧ (bQ c.qs).length < 64 ∧ c.nx ≤ 2147483647 := by
  unfold dv at h
  split at h
  · cases h
  · rename_i h1
    split at h
    · rename_i h2; exact absurd h h2
    · rename_i h2
      split at h
      · cases h
      · rename_i h3
        split at h
        · cases h
        · rename_i h4
          simp only [not_or] at h1 h4
          exact ⟨by simpa using h1.1, h1.2.1, by simpa using h1.2.2, by simpa using h2, by simpa using h3, by omega, by omega⟩
theorem oV {q : QR} (h : eB q = false) : q.id = 0 ∧ q.att = 0 ∧ q.bk.size = 0 ∧ q.st = 0 ∧ q.nx = 0 ∧ q.an.length = 0 ∧ q.dn = false ∧ q.cd = 0 ∧ q.tx.size = 0 := by
  unfold eB at h
  simp at h
  obtain ⟨⟨⟨⟨⟨⟨⟨⟨h1, h2⟩, h3⟩, h4⟩, h5⟩, h6⟩, h7⟩, h8⟩, h9⟩ := h
  refine ⟨h1, h2, by rw [h3]; rfl, h4, h5, by simp [h6], h7, h8, by rw [h9]; rfl⟩
theorem xw {s : Int} (h : c2 s ≠ 0) : kC s = true := by
  unfold c2 at h
  split at h
  · assumption
  · exact absurd rfl h
theorem mN {s : Int} (_h : kC s = true) : oP s 0 = true := by
  unfold oP c4
  rw [if_pos _h]
  split <;> decide
theorem vP (c : CL) (now : Int) (q : QR) : (dD c now q).hd = q.hd := by
  unfold dD
  dsimp only
  split <;> rfl
theorem xy : be 3 aZ = 0 := by kernel_rfl
theorem zy : be 1 aZ = 0 := by kernel_rfl
theorem yD : be 12 aZ = 0 := by kernel_rfl
theorem vQ {c : CL} (hV : VC c) (now : Int) {q : QR} (h : dv c q = 0) : VQ c.ra c.bs (dD c now q) := by
  obtain ⟨h1, h2, h3, h4, h5, h6, h7⟩ := oU h
  obtain ⟨o1, o2, o3, o4, o5, o6, o7, o8, o9⟩ := oV h1
  have hs := xw h2
  have ha := fy hV.re
  have hn := kG now
  have hhd : bH (dD c now q).hd = 0 := by rw [vP]; exact h4
  have han : q.an = [] := List.length_eq_zero_iff.1 o6
  unfold dD at hhd ⊢
  dsimp only at hhd ⊢
  split
  · rename_i hp
    rw [if_pos hp] at hhd
    exact ⟨hhd, hs, h3, h5, by show cL q.an = false; rw [han]; rfl, by show oP q.sh q.an.length = true; rw [o6]; exact mN hs, by show 0 ≤ q.att ∧ q.att ≤ c.ra; omega, by show 0 ≤ q.st ∧ q.st ≤ _; omega, hn, fun _ => o4, fun h0 => absurd o3 h0, fun _ => xy, fun h0 => (by cases h0), fun h0 => (by cases h0)⟩
  · rename_i hp
    rw [if_neg hp] at hhd
    exact ⟨hhd, hs, h3, h5, by show cL q.an = false; rw [han]; rfl, by show oP q.sh q.an.length = true; rw [o6]; exact mN hs, by show 0 ≤ q.att ∧ q.att ≤ c.ra; omega, by show 0 ≤ q.st ∧ q.st ≤ _; omega, hn, fun _ => o4, fun h0 => absurd o3 h0, fun h0 => (by rw [show _ = q.dn from rfl, o7] at h0; cases h0), fun _ => ⟨o8, o9⟩, fun _ _ => ⟨o6, by show q.att < _; omega⟩⟩
theorem qi (c : CL) (now : Int) (q : QR) : (dD c now q).id = c.nx ∧ (dD c now q).bk = q.bk ∧ (dD c now q).att = q.att ∧ (dD c now q).an = q.an ∧ (dD c now q).ms = q.ms ∧ (dD c now q).mg = q.mg := by
  unfold dD
  dsimp only
  split <;> exact ⟨rfl, rfl, rfl, rfl, rfl, rfl⟩
theorem vR {c : CL} (hV : VC c) (now : Int) {q : QR} (h1 : q.ms.length ≤ 4398046511104) (h2 : q.mg.length ≤ 8796093022208) : ∃ n, n ≤ 1 ∧ Mv c n [] (ci c now q).1 := by
  unfold ci
  split
  · exact ⟨0, by omega, .refl _⟩
  · rename_i h
    have h0 : dv c q = 0 := by simpa using h
    obtain ⟨f1, f2, f3, f4, f5, f6, f7⟩ := oU h0
    obtain ⟨o1, o2, o3, o4, o5, o6, o7, o8, o9⟩ := oV f1
    obtain ⟨m1, m2, m3, m4, m5, m6⟩ := qi c now q
    exact ⟨1, Nat.le_refl _, .app (dD c now q) (vQ hV now h0) m1 (by rw [m2]; exact o3) (by rw [m3]; exact o2) (by rw [m4]; exact o6) (by rw [m5]; exact h1) (by rw [m6]; exact h2) f7 f6⟩
theorem i6 (now : Int) (base : CL) : ∀ (r pre : List QR) (bs : List BV) (tk : Int), Mv { base with qs := pre ++ r, bs := bs, tk := tk } 0 (bB now base.mo base.gn r bs tk).out { base with qs := pre ++ (bB now base.mo base.gn r bs tk).qs, bs := (bB now base.mo base.gn r bs tk).bs, tk := (bB now base.mo base.gn r bs tk).tk }
  | [], pre, bs, tk => .refl _
  | q :: r, pre, bs, tk => by
    have hq : (pre ++ q :: r)[pre.length]? = some q := by rw [List.getElem?_append_right (Nat.le_refl _), Nat.sub_self]; rfl
    cases hc : (if fG now q = true then cK now bs else none) with
    | none =>
      rw [gG hc]
      have ih := i6 now base r (pre ++ [q]) bs tk
      simp only [List.append_assoc, List.singleton_append] at ih
      exact ih
    | some k =>
      rw [fR hc]
      have hdu : fG now q = true := by
        cases hd : fG now q with
        | true => rfl
        | false => rw [hd] at hc; cases hc
      rw [if_pos hdu] at hc
      obtain ⟨b, hb⟩ := nF hc
      have ih := i6 now base r (pre ++ [f0 bs k q]) (bR cG bs k) (if q.att + 1 = 1 then dt tk base.mo base.gn else tk)
      simp only [List.append_assoc, List.singleton_append] at ih
      unfold fG at hdu
      simp at hdu
      have h1 : Mv { base with qs := pre ++ q :: r, bs := bs, tk := tk } 0 [f0 bs k q] (kv { base with qs := pre ++ q :: r, bs := bs, tk := tk } pre.length (f0 bs k) (bR cG bs k) (if q.att + 1 = 1 then dt tk base.mo base.gn else tk)) := .beg hq hdu.1.1.1 (by rw [hdu.1.1.2]; rfl) hb
      unfold kv at h1
      dsimp only at h1
      rw [q4] at h1
      exact h1.trans ih
theorem tZ (c : CL) (now : Int) : Mv c 0 (cD c now).2 (cD c now).1 := i6 (bI now) c c.qs [] c.bs c.tk
theorem vS (c : CL) (id st : Int) : Mv c 0 [] (cC c id st).1 := by
  unfold cC
  split
  · exact .refl _
  · rename_i h
    obtain ⟨q, h1, h2⟩ := j3 (by simpa using h)
    split
    · exact .refl _
    · split
      · exact .refl _
      · exact .snt st h1 h2 (by omega) (by omega)
theorem vT (c : CL) (id : Int) (m : ByteArray) : ∃ n, n ≤ 1 ∧ Mv c n [] (cy c id m).1 := by
  unfold cy
  split
  · exact ⟨0, by omega, .refl _⟩
  · rename_i h
    obtain ⟨q, h1, h2⟩ := j3 (by simpa using h)
    split
    · exact ⟨0, by omega, .refl _⟩
    · split
      · exact ⟨0, by omega, .refl _⟩
      · rename_i h3
        rw [ek h1] at h3
        exact ⟨1, Nat.le_refl _, .rcv m h1 h2 (by omega) (by unfold oP; simp; omega)⟩
def lJ (q : QR) : QR := { q with bk := aZ, st := 0 }
theorem r9 {q : QR} (h1 : q.bk.size = 0) (h2 : q.st = 0) : lJ q = q := by
  obtain ⟨id, sv, mt, late, ms, sh, mg, att, bk, st, nx, an, dn, cd, tx⟩ := q
  have h3 := yC.1 h1
  dsimp only at h2 h3
  subst h2 h3
  rfl
theorem nK {c : CL} {i : Nat} {q : QR} (hq : c.qs[i]? = some q) (hi : q.bk.size = 0 → q.st = 0) (code now : Int) : ct c i code now = kv c i lJ (fC c q code now) c.tk := by
  unfold ct
  dsimp only
  rw [ek hq]
  by_cases h : q.bk.size = 0
  · rw [if_pos h]
    unfold kv fC
    rw [if_pos h, oT hq (r9 h (hi h))]
  · rw [if_neg h]
    unfold kv fC
    rw [if_neg h]
    rfl
theorem nL {c : CL} {i : Nat} {q : QR} (hq : c.qs[i]? = some q) (hi : q.bk.size = 0 → q.st = 0) (code now : Int) : dE c i code now = kv c i (fun q => { q with bk := aZ, st := 0, dn := true, cd := code, tx := aZ }) (fC c q code now) c.tk := by
  unfold dE
  rw [nK hq hi]
  unfold bZ kv
  dsimp only
  rw [kI]
  rfl
theorem jy {c : CL} (hV : VC c) {i : Nat} {q : QR} (hq : c.qs[i]? = some q) : q.bk.size = 0 → q.st = 0 := (hV.qs q (dI hq)).idle
theorem nM {c : CL} (hV : VC c) {i : Nat} {q : QR} (hq : c.qs[i]? = some q) (hd : q.dn = false) {code : Int} (now : Int) (hc : be code aZ = 0) : Mv c 0 [] (dE c i code now) := by
  rw [nL hq (jy hV hq)]
  exact .fin code now code aZ hq hd hc
theorem vU {c : CL} (hV : VC c) (now id : Int) : Mv c 0 [] (cR c now id).1 := by
  unfold cR
  split
  · exact .refl _
  · rename_i i hf
    obtain ⟨q, hq, _⟩ := ej hf
    split
    · exact .refl _
    · rename_i hd
      rw [ek hq] at hd
      exact nM hV hq (by simpa using hd) _ zy
theorem j6 (now : Int) : ∀ (n i : Nat) (c : CL), VC c → i + n = c.qs.length → Mv c 0 [] (eb now n i c).1
  | 0, _, _, _, _ => .refl _
  | n + 1, i, c, hV, hl => by
    obtain ⟨q, hq⟩ : ∃ q, c.qs[i]? = some q := ⟨_, List.getElem?_eq_getElem (by omega)⟩
    rw [eb]
    dsimp only
    split
    · rename_i h
      rw [ek hq] at h
      have h1 := nM hV hq h.1 now xy
      have hl2 : (dE c i 3 now).qs.length = c.qs.length := by rw [nL hq (jy hV hq)]; exact List.length_modify _ _ _
      exact h1.trans (j6 now n (i + 1) _ (h1.ok hV) (by omega))
    · exact j6 now n (i + 1) c hV (by omega)
theorem vV {c : CL} (hV : VC c) (now : Int) : Mv c 0 [] (df c now).1 := j6 _ _ _ _ hV (Nat.zero_add _)
theorem q6 (a b : Int) : 0 ≤ lV a b ∧ lV a b ≤ 1099511627776 := kG _
theorem t1 {c : CL} {n code : Int} {safe : Bool} (h : rJ c n code safe = true) : n < c.ra ∧ 1000 ≤ c.tk ∧ da c.tk c.mo c.gn = 0 := by
  unfold rJ at h
  simp only [Bool.and_eq_true, decide_eq_true_eq] at h
  exact ⟨h.1.1.1.1.1.2, h.2, h.1.1.1.1.1.1.1.2⟩
theorem mO {c : CL} (hV : VC c) (now id code : Int) (tx : ByteArray) (safe : Bool) : (el c id ≠ 0 ∧ de c now id code tx safe = (c, el c id)) ∨ (be code tx ≠ 0 ∧ de c now id code tx safe = (c, be code tx)) ∨ ∃ q, c.qs[dZ c id]? = some q ∧ q.bk.size ≠ 0 ∧ be code tx = 0 ∧ ((de c now id code tx safe = (kv c (dZ c id) (fun q => { q with bk := aZ, st := 0, nx := en c q (bI now) }) (fC c q code (bI now)) (c.tk - 1000), 0) ∧ q.an.length = 0 ∧ q.att < c.ra ∧ 1000 ≤ c.tk) ∨ (de c now id code tx safe = (kv c (dZ c id) (fun q => { q with bk := aZ, st := 0, dn := true, cd := code, tx := tx }) (fC c q code (bI now)) c.tk, 0))) := by
  unfold de
  by_cases h1 : el c id ≠ 0
  · exact .inl ⟨h1, by rw [if_pos h1]⟩
  rw [if_neg h1]
  by_cases h2 : be code tx ≠ 0
  · exact .inr (.inl ⟨h2, by rw [if_pos h2]⟩)
  rw [if_neg h2]
  obtain ⟨q, hq, hb⟩ := j3 (by simpa using h1)
  refine .inr (.inr ⟨q, hq, hb, by simpa using h2, ?_⟩)
  dsimp only
  rw [nK hq (jy hV hq)]
  have hat : i9 (kv c (dZ c id) lJ (fC c q code (bI now)) c.tk) (dZ c id) = lJ q := ek (qh hq)
  rw [hat]
  by_cases h3 : fv (kv c (dZ c id) lJ (fC c q code (bI now)) c.tk) (lJ q) (bI now) code safe = true
  · rw [if_pos h3]
    unfold fv at h3
    simp only [Bool.and_eq_true, decide_eq_true_eq] at h3
    obtain ⟨h4, h5, h6⟩ := t1 h3.1.1.1
    refine .inl ⟨?_, h3.1.1.2, h4, h5⟩
    have h7 : nk c.tk c.mo c.gn = c.tk - 1000 := by unfold nk; rw [if_pos ⟨h6, h5⟩]
    unfold bZ kv
    dsimp only
    rw [h7, kI]
    rfl
  · rw [if_neg h3]
    refine .inr ?_
    unfold bZ kv
    dsimp only
    rw [kI]
    rfl
theorem t2 {c : CL} (hV : VC c) (now id code : Int) (tx : ByteArray) (safe : Bool) : Mv c 0 [] (de c now id code tx safe).1 := by
  rcases mO hV now id code tx safe with ⟨_, h⟩ | ⟨_, h⟩ | ⟨q, hq, hb, hk, ⟨h, h1, h2, h3⟩ | h⟩
  · rw [h]; exact .refl _
  · rw [h]; exact .refl _
  · rw [h]
    have h4 : Mv c 0 [] (kv c (dZ c id) (fun x => { x with bk := aZ, st := 0, nx := en c q (bI now) }) (fC c q code (bI now)) (c.tk - 1000)) := .ret code (bI now) (en c q (bI now)) hq hb h1 h2 h3 (q6 _ _).1 (q6 _ _).2
    have h5 : c.qs.modify (dZ c id) (fun x => { x with bk := aZ, st := 0, nx := en c q (bI now) }) = c.qs.modify (dZ c id) (fun x => { x with bk := aZ, st := 0, nx := en c x (bI now) }) := nJ hq rfl
    unfold kv at h4 ⊢
    rw [h5] at h4
    exact h4
  · rw [h]
    exact .fin code (bI now) code tx hq (vO hV hq hb) hk
theorem vW {c : CL} (hV : VC c) (o : y4) (h1 : o.q.ms.length ≤ 4398046511104) (h2 : o.q.mg.length ≤ 8796093022208) : ∃ n, n ≤ 1 ∧ Mv c n (aX c o).2.qs (aX c o).1 := by
  unfold aX
  split
  · exact vR hV o.now h1 h2
  split
  · exact ⟨0, by omega, tZ c o.now⟩
  split
  · exact ⟨0, by omega, vS c o.id o.n⟩
  split
  · exact vT c o.id o.msg
  split
  · exact ⟨0, by omega, t2 hV _ _ _ _ _⟩
  split
  · exact ⟨0, by omega, vU hV _ _⟩
  split
  · exact ⟨0, by omega, vV hV _⟩
  · exact ⟨0, by omega, .refl _⟩
theorem xz {l : List BV} {a b c k t m g1 : Int} (h : (dQ l a b c k t m g1).2 = 0) : dQ l a b c k t m g1 = (⟨l, a, b, c, k, t, m, g1, [], 1⟩, 0) ∧ VC ⟨l, a, b, c, k, t, m, g1, [], 1⟩ := by
  unfold dQ at h ⊢
  split at h
  · rename_i h1; exact absurd h h1
  rename_i h1
  split at h
  · cases h
  rename_i h2
  split at h
  · rename_i h3; exact absurd h h3
  rename_i h3
  split at h
  · rename_i h4; exact absurd h h4
  rename_i h4
  rw [if_neg h1, if_neg h2, if_neg h3, if_neg h4]
  refine ⟨rfl, ⟨by simpa using h1, fun h0 => h2 (by rw [show l = [] from h0]; rfl), by simpa using h3, by simpa using h4, ⟨Int.le_refl _, by show (1 : Int) ≤ 2147483648; decide⟩, Nat.zero_le _, fun q h => ?_, List.Pairwise.nil, fun q h => ?_⟩⟩
  · cases h
  · cases h
end Go.Proofs.YtmdkfbmpenohiaaGreatDoor.Y
namespace Go.Proofs.YtmdkfbmpenohiaaGreatDoor.Y
open Go.RowKit
theorem t6 {c : CL} (hV : VC c) {i j : Nat} {a b : QR} (ha : c.qs[i]? = some a) (hb : c.qs[j]? = some b) (hn : a.id = b.id) : i = j := by
  have h := hV.ord
  rw [List.pairwise_iff_getElem] at h
  obtain ⟨hi, rfl⟩ := List.getElem?_eq_some_iff.1 ha
  obtain ⟨hj, rfl⟩ := List.getElem?_eq_some_iff.1 hb
  rcases Nat.lt_trichotomy i j with h1 | h1 | h1
  · have := h i j hi hj h1
    omega
  · exact h1
  · have := h j i hj hi h1
    omega
theorem mP {id : Int} : ∀ {l : List QR} {k : Nat}, dh id l k = none → ∀ q ∈ l, q.id ≠ id
  | [], _, _ => fun _ h => by cases h
  | a :: l, k, h => fun q hq => by
    rw [dh] at h
    split at h
    · cases h
    · rename_i h1
      rcases List.mem_cons.1 hq with rfl | hq
      · exact h1
      · exact mP h q hq
theorem nN {c : CL} (hV : VC c) {i : Nat} {q : QR} (h : c.qs[i]? = some q) : dh q.id c.qs 0 = some i := by
  cases hf : dh q.id c.qs 0 with
  | none => exact absurd rfl (mP hf q (dI h))
  | some j =>
    obtain ⟨p, h1, h2⟩ := ej hf
    rw [t6 hV h1 h h2]
theorem oW {c : CL} (hV : VC c) {q : QR} (h : q ∈ c.qs) : gq c q.id = (q, true) := by
  obtain ⟨i, hi⟩ := List.getElem?_of_mem h
  unfold gq
  rw [nN hV hi]
  simp only [ek hi]
theorem xA {c : CL} (hV : VC c) {q : QR} (h : q ∈ c.qs) (hb : q.bk.size ≠ 0) : ∃ i, c.qs[i]? = some q ∧ el c q.id = 0 ∧ dZ c q.id = i := by
  obtain ⟨i, hi⟩ := List.getElem?_of_mem h
  have h1 : el c q.id = 0 := by unfold el; rw [nN hV hi]; dsimp only; rw [hi]; simp only; rw [if_neg hb]
  refine ⟨i, hi, h1, ?_⟩
  unfold dZ
  rw [if_pos h1, nN hV hi]; rfl
theorem Keeps.find {c d : CL} (h : Keeps c d) (hV : VC d) {q : QR} (hq : q ∈ c.qs) : ∃ p, gq d q.id = (p, true) ∧ p ∈ d.qs ∧ (q.dn = true → p = q) := by
  obtain ⟨i, hi⟩ := List.getElem?_of_mem hq
  obtain ⟨p, h1, h2, h3⟩ := h i q hi
  exact ⟨p, by rw [← h2]; exact oW hV (dI h1), dI h1, h3⟩
def l4 (c : CL) (id : Int) : CL × Int := de c 1099511627776 id 12 aZ true
theorem q7 {c : CL} (hV : VC c) (id : Int) : Mv c 0 [] (l4 c id).1 := t2 hV _ _ _ _ _
theorem q8 {c : CL} (hV : VC c) {q : QR} (hq : q ∈ c.qs) (hb : q.bk.size ≠ 0) : (l4 c q.id).2 = 0 ∧ (∀ x ∈ (l4 c q.id).1.qs, (x.id = q.id ∧ x.bk.size = 0 ∧ x.att = q.att) ∨ (x ∈ c.qs ∧ x.id ≠ q.id)) ∧ (∀ x ∈ c.qs, x.id ≠ q.id → x ∈ (l4 c q.id).1.qs) := by
  obtain ⟨i, hi, h1, h2⟩ := xA hV hq hb
  have key : ∀ (g : QR → QR) (bs : List BV) (tk : Int), (g q).id = q.id → (g q).bk.size = 0 → (g q).att = q.att → (∀ x ∈ (kv c i g bs tk).qs, (x.id = q.id ∧ x.bk.size = 0 ∧ x.att = q.att) ∨ (x ∈ c.qs ∧ x.id ≠ q.id)) ∧ (∀ x ∈ c.qs, x.id ≠ q.id → x ∈ (kv c i g bs tk).qs) := by
    intro g bs tk g1 g2 g3
    constructor
    · intro x hx
      obtain ⟨j, hj⟩ := List.getElem?_of_mem hx
      have hj' : (c.qs.modify i g)[j]? = some x := hj
      rw [List.getElem?_modify] at hj'
      by_cases hij : i = j
      · subst hij
        rw [hi] at hj'
        obtain rfl : g q = x := by simpa using hj'
        exact .inl ⟨g1, g2, g3⟩
      · cases hcj : c.qs[j]? with
        | none => rw [hcj] at hj'; cases hj'
        | some y =>
          rw [hcj] at hj'
          obtain rfl : y = x := by simpa [hij] using hj'
          exact .inr ⟨dI hcj, fun he => hij (t6 hV hi hcj he.symm)⟩
    · intro x hx hne
      obtain ⟨j, hj⟩ := List.getElem?_of_mem hx
      have hij : i ≠ j := fun h => by subst h; rw [hi] at hj; obtain rfl := Option.some.inj hj; exact hne rfl
      refine List.mem_of_getElem? (i := j) ?_
      show (c.qs.modify i g)[j]? = some x
      rw [List.getElem?_modify, hj]
      simp [hij]
  rcases mO hV 1099511627776 q.id 12 aZ true with ⟨h, _⟩ | ⟨h, _⟩ | ⟨p, hp, _, _, ⟨h, _⟩ | h⟩
  · exact absurd h1 h
  · exact absurd yD h
  · rw [h2, hi] at hp
    obtain rfl := Option.some.inj hp
    unfold l4
    rw [h, h2]
    refine ⟨rfl, ?_⟩
    exact key (fun x => { x with bk := aZ, st := 0, nx := en c x (bI 1099511627776) }) _ _ J J J
  · rw [h2, hi] at hp
    obtain rfl := Option.some.inj hp
    unfold l4
    rw [h, h2]
    refine ⟨rfl, ?_⟩
    exact key (fun x => { x with bk := aZ, st := 0, dn := true, cd := 12, tx := aZ }) _ _ J J J
def P1 (r : List Int) (c : CL) : Prop := VC c ∧ ∀ q ∈ c.qs, q.bk.size ≠ 0 → q.id ∈ r
theorem P1.idle {id : Int} {r : List Int} {c : CL} (h : P1 (id :: r) c) (hb : (gq c id).1.bk.size = 0) : P1 r c := ⟨h.1, fun q hq hq1 => by
  rcases List.mem_cons.1 (h.2 q hq hq1) with rfl | h1
  · rw [oW h.1 hq] at hb
    exact absurd hb hq1
  · exact h1⟩
theorem P1.busy {id : Int} {r : List Int} {c : CL} (h : P1 (id :: r) c) (hb : (gq c id).1.bk.size ≠ 0) : (l4 c id).2 = 0 ∧ P1 r (l4 c id).1 := by
  have h1 : ∃ q ∈ c.qs, q.id = id ∧ q.bk.size ≠ 0 := by
    unfold gq at hb
    cases hf : dh id c.qs 0 with
    | none => rw [hf] at hb; exact absurd rfl hb
    | some i =>
      rw [hf] at hb
      obtain ⟨q, hq, hid⟩ := ej hf
      rw [show (i9 c i, true).1 = q from ek hq] at hb
      exact ⟨q, dI hq, hid, hb⟩
  obtain ⟨q, hq, rfl, hq1⟩ := h1
  obtain ⟨h2, h3, _⟩ := q8 h.1 hq hq1
  refine ⟨h2, (q7 h.1 _).ok h.1, fun x hx hxb => ?_⟩
  rcases h3 x hx with ⟨_, h4, _⟩ | ⟨h4, h5⟩
  · exact absurd h4 hxb
  · rcases List.mem_cons.1 (h.2 x h4 hxb) with h6 | h6
    · exact absurd h6 h5
    · exact h6
def RN (j : Int) (c : CL) : Prop := VC c ∧ (∀ q ∈ c.qs, q.bk.size = 0) ∧ ∀ q ∈ c.qs, q.dn = false → j ≤ q.att
theorem RN.zero {c : CL} (h : P1 [] c) : RN 0 c := ⟨h.1, fun q hq => by
  by_cases hb : q.bk.size = 0
  · exact hb
  · exact absurd (h.2 q hq hb) (by simp), fun q hq _ => (h.1.qs q hq).att.1⟩
theorem RN.done {c : CL} (h : RN c.ra c) : (∀ q ∈ c.qs, q.dn = true ∧ q.att ≤ c.ra) ∧ bQ c.qs = [] := by
  have h1 : ∀ q ∈ c.qs, q.dn = true := fun q hq => by
    cases hd : q.dn with
    | true => rfl
    | false =>
      have h2 := h.2.2 q hq hd
      have h3 := ((h.1.qs q hq).rest hd (h.2.1 q hq)).2
      omega
  refine ⟨fun q hq => ⟨h1 q hq, (h.1.qs q hq).att.2⟩, ?_⟩
  have h2 := i5 c.qs
  refine List.eq_nil_of_length_eq_zero ?_
  rw [h2, List.countP_eq_zero]
  intro q hq
  simp [h1 q hq]
structure RE (j : Int) (r : List QR) (d : CL) : Prop where
  ok : VC d
  at_ : ∀ q ∈ d.qs, q.dn = false → j + 1 ≤ q.att
  bus : ∀ q ∈ d.qs, q.bk.size ≠ 0 → ∃ p ∈ r, p.id = q.id
  got : ∀ p ∈ r, ∃ q ∈ d.qs, q.id = p.id ∧ q.bk.size ≠ 0
  nod : r.Pairwise (fun a b => a.id ≠ b.id)
  att : ∀ p ∈ r, p.att ≤ d.ra
theorem RE.next {j : Int} {p : QR} {r : List QR} {d : CL} (h : RE j (p :: r) d) : (l4 d p.id).2 = 0 ∧ RE j r (l4 d p.id).1 := by
  obtain ⟨q, hq, hid, hb⟩ := h.got p (List.mem_cons_self ..)
  obtain ⟨h1, h2, h3⟩ := q8 h.ok hq hb
  rw [hid] at h1 h2 h3
  have hmv := q7 h.ok p.id
  have hne := List.pairwise_cons.1 h.nod
  refine ⟨h1, hmv.ok h.ok, fun x hx hd => ?_, fun x hx hxb => ?_, fun y hy => ?_, hne.2, fun y hy => ?_⟩
  · rcases h2 x hx with ⟨_, _, h4⟩ | ⟨h4, _⟩
    · rw [h4]
      exact h.at_ q hq (((h.ok.qs q hq).busy hb).2.2)
    · exact h.at_ x h4 hd
  · rcases h2 x hx with ⟨_, h4, _⟩ | ⟨h4, h5⟩
    · exact absurd h4 hxb
    · obtain ⟨y, hy, hyi⟩ := h.bus x h4 hxb
      rcases List.mem_cons.1 hy with rfl | hy
      · exact absurd hyi.symm h5
      · exact ⟨y, hy, hyi⟩
  · obtain ⟨z, hz, hzi, hzb⟩ := h.got y (List.mem_cons_of_mem _ hy)
    exact ⟨z, h3 z hz (fun he => hne.1 y hy (he.symm.trans hzi)), hzi, hzb⟩
  · rw [hmv.pol.1]
    exact h.att y (List.mem_cons_of_mem _ hy)
theorem RE.done {j : Int} {d : CL} (h : RE j [] d) : RN (j + 1) d := ⟨h.ok, (fun q hq => by
  by_cases hb : q.bk.size = 0
  · exact hb
  · obtain ⟨p, hp, _⟩ := h.bus q hq hb
    cases hp), h.at_⟩
end Go.Proofs.YtmdkfbmpenohiaaGreatDoor.Y
