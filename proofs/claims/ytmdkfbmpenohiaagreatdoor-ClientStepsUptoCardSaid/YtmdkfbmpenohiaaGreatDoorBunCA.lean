/- Texts of this claim merged into one: ClA, ClB. -/
import Derived.Test.YtmdkfbmpenohiaaGreatDoorBunC7
namespace Go.Proofs.YtmdkfbmpenohiaaGreatDoor.Y
open Go.RowKit
def yZ : Option Nat → Int
  | some k => k
  | none => -1
theorem wI {A : Nat → Prop} (x : Option Addr) (l : List BV) (n cap : Nat) (now : Int) (o : Option Nat) (w : World) (hR : Rws A w 6 bC x l) (hn : l.length = n) (hlen : n ≤ 2513169434916) (hok : ∀ b ∈ l, dK b = true) (h : cK now l = o) : Calls Tryz.prog 51 #[.slice x n cap, .int .i64 now] w fun e w' => e = .returned (.int .i64 (yZ o)) ∧ Below w.heap.size w w' := by
  subst hn h
  refine (tu x l cap now w hR hlen hok).mono fun e w' ⟨h1, h2⟩ => ⟨?_, h2⟩
  rw [h1]
  cases cK now l <;> rfl
theorem zu {A : Nat → Prop} (x : Option Addr) (l : List BV) (n cap k : Nat) (v : BV) (w : World) (hR : Rws A w 6 bC x l) (hn : l.length = n) (hlen : n ≤ 2513169434916) (hk : l[k]? = some v) (hv : dK v = true) : Calls Tryz.prog 52 #[.slice x n cap, .int .i64 ((k : Nat) : Int)] w fun e w' => ∃ p : Option Addr × Nat, True ∧ e = .returned (.slice p.1 n p.2) ∧ Made w w' [.own p.1 p.2 64 6 n ((bR cG l k).flatMap bC)] := by subst hn; exact tA x l cap k v w hR hlen hk hv
theorem tS {w : World} {B n cap : Nat} {x : Option Addr} {l : List BV} (hn : l.length = n) (h : w.ownsRow B 64 6 (.slice x n cap) n (l.flatMap bC)) : Rws (fun b => B ≤ b) w 6 bC x l := by subst hn; exact Rws.own cr h
theorem nD {b : BV} (h : dK b = true) : dK (cG b) = true := by
  have hr := ec h
  unfold dK gR cG cp
  simp
  omega
theorem oK {f : BV → BV} : ∀ {l : List BV} {k : Nat} {x : BV}, x ∈ bR f l k → x ∈ l ∨ ∃ y ∈ l, x = f y
  | [], _, _, h => by cases h
  | a :: l, 0, x, h => by
    rcases List.mem_cons.1 h with rfl | h
    · exact .inr ⟨a, List.mem_cons_self .., rfl⟩
    · exact .inl (List.mem_cons_of_mem _ h)
  | a :: l, k + 1, x, h => by
    rcases List.mem_cons.1 h with rfl | h
    · exact .inl (List.mem_cons_self ..)
    · rcases oK h with h | ⟨y, h1, h2⟩
      · exact .inl (List.mem_cons_of_mem _ h)
      · exact .inr ⟨y, List.mem_cons_of_mem _ h1, h2⟩
theorem nE {f : BV → BV} (hf : ∀ b, dK b = true → dK (f b) = true) {l : List BV} {k : Nat} (h : ∀ b ∈ l, dK b = true) : ∀ b ∈ bR f l k, dK b = true := fun b hb => by
  rcases oK hb with h1 | ⟨y, h1, rfl⟩
  · exact h b h1
  · exact hf y (h y h1)
theorem nF {now : Int} {l : List BV} {k : Nat} (h : cK now l = some k) : ∃ b, l[k]? = some b := by
  have key : ∀ (r : List BV) (i : Nat) (o : Option (Nat × BV)), (∀ j b, o = some (j, b) → l[j]? = some b) → (∀ j, r[j]? = l[i + j]?) → ∀ j b, cZ (bI now) r i o = some (j, b) → l[j]? = some b := by
    intro r
    induction r with
    | nil => intro i o ho _ j b h; exact ho j b (by cases o <;> exact h)
    | cons a r ih =>
      intro i o ho hr j b h
      have hr' : ∀ j, r[j]? = l[i + 1 + j]? := fun j => by have := hr (j + 1); rw [show i + (j + 1) = i + 1 + j by omega] at this; simpa using this
      have ha : l[i]? = some a := by have := hr 0; simpa using this.symm
      cases o with
      | none => exact ih (i + 1) _ (fun j b h => by obtain ⟨rfl, rfl⟩ := (by simpa using h : i = j ∧ a = b); exact ha) hr' j b h
      | some p =>
        obtain ⟨k, c⟩ := p
        rw [fO] at h
        refine ih (i + 1) _ (fun j b h => ?_) hr' j b h
        split at h
        · obtain ⟨rfl, rfl⟩ := (by simpa using h : i = j ∧ a = b); exact ha
        · exact ho j b h
  unfold cK at h
  cases hp : cZ (bI now) l 0 none with
  | none => rw [hp] at h; cases h
  | some p =>
    obtain ⟨j, b⟩ := p
    rw [hp] at h
    obtain rfl := (by simpa using h : j = k)
    exact ⟨b, key l 0 none (fun _ _ h => by cases h) (fun j => by simp) j b hp⟩
theorem p4 (n a b c : Ent) (R : List Ent) : (n :: c :: a :: b :: R).Perm (a :: b :: n :: c :: R) := by
  have h1 : (n :: c :: a :: b :: R).Perm ([a, b] ++ ([n, c] ++ R)) := by
    refine (List.Perm.trans (l₂ := ([n, c] ++ [a, b]) ++ R) (List.Perm.refl _) ?_)
    rw [← List.append_assoc]
    exact List.Perm.append_right R List.perm_append_comm
  exact h1
structure SI (n i : Nat) (v : CV) (now : Int) (qv1 qv : List QV) (bs : List BV) (tk : Int) (lq : List QV) : Prop where
  le : i ≤ n
  len : qv.length = n
  rest : qv.drop i = qv1.drop i
  eq : qv.flatMap EQ = qv1.flatMap EQ
  ok : ∀ b ∈ bs, dK b = true
  bl : bs.length = v.c.bs.length
  ll : lq.length ≤ i
  go : bB (bI now) v.c.mo v.c.gn v.c.qs v.c.bs v.c.tk = ⟨(qv.take i).map (·.q) ++ (bB (bI now) v.c.mo v.c.gn ((qv1.drop i).map (·.q)) bs tk).qs, (bB (bI now) v.c.mo v.c.gn ((qv1.drop i).map (·.q)) bs tk).bs, (bB (bI now) v.c.mo v.c.gn ((qv1.drop i).map (·.q)) bs tk).tk, lq.map (·.q) ++ (bB (bI now) v.c.mo v.c.gn ((qv1.drop i).map (·.q)) bs tk).out⟩
theorem gG {now mo gn : Int} {q : QR} {r : List QR} {bs : List BV} {tk : Int} (h : (if fG now q = true then cK now bs else none) = none) : bB now mo gn (q :: r) bs tk = ⟨q :: (bB now mo gn r bs tk).qs, (bB now mo gn r bs tk).bs, (bB now mo gn r bs tk).tk, (bB now mo gn r bs tk).out⟩ := by
  rw [bB]; simp only [h]
theorem fR {now mo gn : Int} {q : QR} {r : List QR} {bs : List BV} {tk : Int} {k : Nat} (h : (if fG now q = true then cK now bs else none) = some k) : bB now mo gn (q :: r) bs tk = ⟨f0 bs k q :: (bB now mo gn r (bR cG bs k) (if q.att + 1 = 1 then dt tk mo gn else tk)).qs, (bB now mo gn r (bR cG bs k) (if q.att + 1 = 1 then dt tk mo gn else tk)).bs, (bB now mo gn r (bR cG bs k) (if q.att + 1 = 1 then dt tk mo gn else tk)).tk, f0 bs k q :: (bB now mo gn r (bR cG bs k) (if q.att + 1 = 1 then dt tk mo gn else tk)).out⟩ := by
  rw [bB]; simp only [h]
theorem SI.u {n i : Nat} {v : CV} {now : Int} {qv1 qv : List QV} {bs : List BV} {tk : Int} {lq : List QV} (h : SI n i v now qv1 qv bs tk lq) {u : QV} (hu : qv1[i]? = some u) : qv[i]? = some u := by
  have h1 : (qv.drop i)[0]? = (qv1.drop i)[0]? := by rw [h.rest]
  rw [List.getElem?_drop, List.getElem?_drop, Nat.add_zero] at h1
  rw [h1, hu]
theorem SI.no {n i : Nat} {v : CV} {now : Int} {qv1 qv : List QV} {bs : List BV} {tk : Int} {lq : List QV} (h : SI n i v now qv1 qv bs tk lq) {u : QV} (hu : qv1[i]? = some u) (hi : i < n) (hn : (if fG (bI now) u.q = true then cK (bI now) bs else none) = none) : SI n (i + 1) v now qv1 qv bs tk lq := by
  have hq := h.u hu
  refine ⟨hi, h.len, by rw [← List.drop_drop, h.rest, List.drop_drop], h.eq, h.ok, h.bl, Nat.le_succ_of_le h.ll, ?_⟩
  have h1 := h.go
  rw [cn hu, List.map_cons, gG hn] at h1
  rw [dW hq, List.map_append, List.append_assoc]
  exact h1
def lZ (bs : List BV) (k : Nat) (u : QV) : QV := { u with q := f0 bs k u.q }
theorem SI.yes {n i : Nat} {v : CV} {now : Int} {qv1 qv : List QV} {bs : List BV} {tk : Int} {lq : List QV} (h : SI n i v now qv1 qv bs tk lq) {u u' : QV} (hu : qv1[i]? = some u) (hi : i < n) {k : Nat} (hn : (if fG (bI now) u.q = true then cK (bI now) bs else none) = some k) (hu' : u'.q = f0 bs k u.q) : SI n (i + 1) v now qv1 (qv.set i (lZ bs k u)) (bR cG bs k) (if u.q.att + 1 = 1 then dt tk v.c.mo v.c.gn else tk) (lq ++ [u']) := by
  have hq := h.u hu
  have hl := h.len
  have hs : (qv.set i (lZ bs k u))[i]? = some (lZ bs k u) := fQ hq _
  refine ⟨hi, by rw [List.length_set, hl], ?_, by rw [j1 hq (u' := lZ bs k u) rfl, h.eq], nE (fun _ => nD) h.ok, by rw [eg, h.bl], by simp; have := h.ll; omega, ?_⟩
  · rw [List.drop_set_of_lt (by omega), ← List.drop_drop, h.rest, List.drop_drop]
  · have h1 := h.go
    rw [cn hu, List.map_cons, fR hn] at h1
    rw [dW hs, List.take_set_of_le (Nat.le_refl _), List.map_append, List.append_assoc, List.map_append, List.append_assoc]
    rw [show List.map (fun x => x.q) [u'] = [f0 bs k u.q] by simp [hu']]
    exact h1
structure SS where
  i : Nat
  qv : List QV
  b : Option Addr
  bc : Nat
  bs : List BV
  tk : Int
  la : Option Addr
  lc : Nat
  lq : List QV
theorem nG (u : QV) (now : Int) : (u.q.dn || !(u.q.bk.toList == (⟨#[]⟩ : ByteArray).toList) || decide (u.q.nx > now) || dC u.q now) = !fG now u.q := by
  unfold fG; rw [cI, Bool.not_not]
set_option maxRecDepth 100000 in
set_option maxHeartbeats 16000000 in
theorem iF {A : Nat → Prop} (v : CV) (now : Int) (w : World) (hC : COk A w v) (hzq : v.qv.length ≤ 703687441776) (hzb : v.c.bs.length ≤ 2513169434916) (hz : ∀ u ∈ v.qv, eP u.q) (hbo : ∀ b ∈ v.c.bs, dK b = true) (hatt : ∀ q ∈ v.c.qs, 0 ≤ q.att ∧ q.att ≤ 1000000000) : Calls Tryz.prog 26 #[.agg #[.slice v.b v.c.bs.length v.bc, .int .i64 v.c.ra, .int .i64 v.c.rb, .int .i64 v.c.rc, .int .i64 v.c.rk, .int .i64 v.c.tk, .int .i64 v.c.mo, .int .i64 v.c.gn, .slice v.x v.qv.length v.xc, .int .i64 v.c.nx], .int .i64 now] w fun e w' => ∃ s : CV × List QV × (Option Addr × Nat), (s.1.c = (cD v.c now).1 ∧ s.2.1.map (·.q) = (cD v.c now).2) ∧ e = .returned (.tuple #[.agg ⟨CC s.1⟩, .slice s.2.2.1 s.2.1.length s.2.2.2]) ∧ Out A w w' s.1 ∧ Rws (fun b => w.heap.size ≤ b) w' 15 QC s.2.2.1 s.2.1 ∧ ∀ q ∈ s.2.1, QOk (fun b => w.heap.size ≤ b) w' q := by
  refine aD Tryz.func26 rfl Tryz.ntmps26 J J ?_
  refine ag ?_
  refine aa ?_
  (refine aT J J J J J J ?_; intro g2)
  (refine aF af J J J J J J ?_; intro g4)
  repeat' (first | refine ag ?_ | refine aa ?_ | refine ab ?_ | refine ae ?_ | ((refine' ak rfl ?_ J J ?_); rotate_left; first | exact ai af J J J J | exact ah af 1 J J J J J) | refine aG rfl (ay J J J J ⟨J, trivial⟩ rfl (by kernel_rfl)) (fun w hm => gl now w) J J ?_)
  refine bf (σ := CV) (fun s => s.c = v.c ∧ s.qv.map (·.q) = v.qv.map (·.q)) (fun s => .agg ⟨CC s⟩) EC rfl (ay J J J J ⟨J, trivial⟩ rfl (by kernel_rfl)) (fun w1 hm => dR v w1 (hC.below hm.below) hzb (by omega) hz) J J ?_
  rintro ⟨c1, b1, bc1, x1, xc1, qv1⟩ ⟨hc1, hq1⟩
  dsimp only at hc1 hq1
  subst hc1
  have hln := eW hq1
  refine dN (fun w hM => hM.perm (qf [_, _] _ _)) ?_
  dsimp only [List.cons_append, List.nil_append]
  repeat' (first | refine ag ?_ | refine aa ?_ | refine ab ?_ | refine aE ?_ | refine ae ?_ | (refine aF af J J J J J J ?_; intro g6) | ((refine' ak rfl ?_ J J ?_); rotate_left; first | exact ai af J J J J | exact ah af 0 J J J J J | exact aO af J J J J J J J) | refine aj af 0 J J J J J J J J J J J J ?_)
  refine iT 50 15 ?_
  have hqm : v.c.qs = qv1.map (·.q) := by rw [hC.eq, hq1]
  refine jf (M' := .own x1 xc1 50 15 qv1.length ((qv1).flatMap QC) :: .own b1 bc1 64 6 v.c.bs.length ((v.c.bs).flatMap bC) :: .own none 0 50 15 (([] : List QV)).length ((([] : List QV)).flatMap QC) :: .cl g6 32 [.slice b1 v.c.bs.length bc1, .int .i64 v.c.ra, .int .i64 v.c.rb, .int .i64 v.c.rc, .int .i64 v.c.rk, .int .i64 v.c.tk, .int .i64 v.c.mo, .int .i64 v.c.gn, .slice x1 qv1.length xc1, .int .i64 v.c.nx] :: .cl g4 32 [.slice none 0 0, .int .i64 0, .int .i64 0, .int .i64 0, .int .i64 0, .int .i64 0, .int .i64 0, .int .i64 0, .slice none 0 0, .int .i64 0] :: .cl g2 32 [.slice v.b v.c.bs.length v.bc, .int .i64 v.c.ra, .int .i64 v.c.rb, .int .i64 v.c.rc, .int .i64 v.c.rk, .int .i64 v.c.tk, .int .i64 v.c.mo, .int .i64 v.c.gn, .slice v.x v.qv.length v.xc, .int .i64 v.c.nx] :: (qv1.flatMap EQ ++ (([] : List QV)).flatMap EQ)) (fun w hM => ?_) ?_
  · have h9 := hM.perm (p4 _ _ _ _ _)
    rw [show ([] : List QV).flatMap EQ = [] from rfl, List.append_nil]
    exact h9
  refine bF (σ := SS) (fun p => SI qv1.length p.i v now qv1 p.qv p.bs p.tk p.lq) (fun p => [(18, [], .int .i64 ((p.i : Nat) : Int)), (17, [], .int .i64 ((qv1.length : Nat) : Int)), (1, [], .int .i64 (bI now)), (7, [], .slice p.la p.lq.length p.lc), (6, [], .pointer (some ⟨g6, 0, none⟩)), (4, [], .pointer (some ⟨g4, 0, none⟩))]) (fun p => .own x1 xc1 50 15 qv1.length ((p.qv).flatMap QC) :: .own p.b p.bc 64 6 v.c.bs.length ((p.bs).flatMap bC) :: .own p.la p.lc 50 15 (p.lq).length ((p.lq).flatMap QC) :: .cl g6 32 [.slice p.b v.c.bs.length p.bc, .int .i64 v.c.ra, .int .i64 v.c.rb, .int .i64 v.c.rc, .int .i64 v.c.rk, .int .i64 p.tk, .int .i64 v.c.mo, .int .i64 v.c.gn, .slice x1 qv1.length xc1, .int .i64 v.c.nx] :: .cl g4 32 [.slice none 0 0, .int .i64 0, .int .i64 0, .int .i64 0, .int .i64 0, .int .i64 0, .int .i64 0, .int .i64 0, .slice none 0 0, .int .i64 0] :: .cl g2 32 [.slice v.b v.c.bs.length v.bc, .int .i64 v.c.ra, .int .i64 v.c.rb, .int .i64 v.c.rc, .int .i64 v.c.rk, .int .i64 v.c.tk, .int .i64 v.c.mo, .int .i64 v.c.gn, .slice v.x v.qv.length v.xc, .int .i64 v.c.nx] :: (qv1.flatMap EQ ++ (p.lq).flatMap EQ)) (fun p => qv1.length - p.i) ⟨0, qv1, b1, bc1, v.c.bs, v.c.tk, none, 0, []⟩ [] ⟨Nat.zero_le _, rfl, rfl, rfl, hbo, rfl, Nat.le_refl _, by rw [hqm]; rfl⟩ ⟨J, J, J, J, J, J, trivial⟩ rfl ?_
  rintro ⟨i, qv, b, bc, bs, tk, la, lc, lq⟩ hI
  dsimp only at hI ⊢
  by_cases hi : i < qv1.length
  · obtain ⟨u, hu⟩ : ∃ u, qv1[i]? = some u := ⟨_, List.getElem?_eq_getElem hi⟩
    have hat := hI.u hu
    have hll := hI.ll
    have huq : u.q ∈ v.c.qs := by rw [hqm]; exact List.mem_map_of_mem (List.mem_of_getElem? hu)
    obtain ⟨ha0, ha1⟩ := hatt u.q huq
    refine jL 0 rfl (by omega) ?_
    rintro gx rfl
    repeat' (first | refine ag ?_ | refine aa ?_ | refine ab ?_ | refine ae ?_ | ((refine' ak rfl ?_ J J ?_); rotate_left; exact aq af J J J J J J))
    refine aw rfl (by simp; omega) ?_
    repeat' (first | refine ag ?_ | refine aa ?_ | refine ab ?_ | refine au ?_ | refine aE ?_ | refine ae ?_ | ((refine' ak rfl ?_ J J ?_); rotate_left; first | exact bA af (m := 15) i J J J J J J J J (fun _ => rfl) (fun _ => hi) | exact cw af 0 (v := .bool u.q.dn) J J J J J J (fun _ => by rw [Nat.zero_add]; exact br bj hat (k := 12) rfl) | exact cw af 0 (v := .string u.q.bk) J J J J J J (fun _ => by rw [Nat.zero_add]; exact br bj hat (k := 8) rfl) | exact cw af 0 (v := .int .i64 u.q.nx) J J J J J J (fun _ => by rw [Nat.zero_add]; exact br bj hat (k := 10) rfl) | exact iu af 0 (cs := QC u) J J J J J J (fun _ j c hc => by rw [Nat.zero_add]; exact br bj hat hc) | exact ai af J J J J | exact aq af J J J J J J | exact bp J J J J J | exact ah af 3 J J J J J) | refine aG rfl (ay J J J J ⟨J, J, trivial⟩ rfl (by kernel_rfl)) (fun w hm => lA u (bI now) w) J J ?_)
    by_cases hdu : fG (bI now) u.q = true
    · refine am rfl (by rw [nG, hdu]; rfl) ?_
      cases hpk : cK (bI now) bs with
      | none =>
        have hno : (if fG (bI now) u.q = true then cK (bI now) bs else none) = none := by rw [if_pos hdu, hpk]
        repeat' (first | refine ag ?_ | refine aa ?_ | refine ab ?_ | refine au ?_ | refine ae ?_ | ((refine' ak rfl ?_ J J ?_); rotate_left; first | exact ai af J J J J | exact aq af J J J J J J | exact ah af 3 J J J J J) | refine aG rfl (ay J J J J ⟨J, J, trivial⟩ rfl (by kernel_rfl)) (fun w hm => wI b bs v.c.bs.length bc (bI now) none w (tS hI.bl (hm.2.get (i := 1) rfl)) hI.bl hzb hI.ok hpk) J J ?_)
        refine aw J J ?_
        repeat' (first | refine aa ?_ | refine ab ?_ | refine a8 ?_ | refine aH ?_ | refine aN ?_ | refine ae ?_ | ((refine' ak rfl ?_ J J ?_); rotate_left; first | exact a6 J J J J J (by omega) | exact ai af J J J J))
        refine aR ⟨i + 1, qv, b, bc, bs, tk, la, lc, lq⟩ [] (hI.no hu hi hno) (show qv1.length - (i + 1) < qv1.length - i by omega) ⟨J, J, J, J, J, J, trivial⟩ rfl
      | some k =>
        have hyes : (if fG (bI now) u.q = true then cK (bI now) bs else none) = some k := by rw [if_pos hdu, hpk]
        obtain ⟨bv, hbv⟩ := nF hpk
        have hkb : k < v.c.bs.length := by rw [← hI.bl]; exact (List.getElem?_eq_some_iff.1 hbv).1
        repeat' (first | refine ag ?_ | refine aa ?_ | refine ab ?_ | refine au ?_ | refine ae ?_ | ((refine' ak rfl ?_ J J ?_); rotate_left; first | exact ai af J J J J | exact aq af J J J J J J | exact ah af 3 J J J J J) | refine aG rfl (ay J J J J ⟨J, J, trivial⟩ rfl (by kernel_rfl)) (fun w hm => wI b bs v.c.bs.length bc (bI now) (some k) w (tS hI.bl (hm.2.get (i := 1) rfl)) hI.bl hzb hI.ok hpk) J J ?_)
        refine am rfl (show decide (((k : Nat) : Int) < 0) = false from decide_eq_false (by omega)) ?_
        refine jL 1 rfl (by omega) ?_
        rintro gb rfl
        repeat' (first | refine ag ?_ | refine aa ?_ | refine ab ?_ | refine au ?_ | ((refine' ak rfl ?_ J J ?_); rotate_left; first | exact bA af (m := 6) k J J J J J J J J (fun _ => rfl) (fun _ => hkb) | exact cw af 1 (v := .string bv.nm) J J J J J J (fun _ => by rw [Nat.zero_add]; exact br cr hbv (k := 0) rfl) | exact ai af J J J J | exact ah af 3 J J J J J))
        refine ce af 0 J J J J J J J J J (show gQ _ (0 + i * 15 + 8) _ = _ from by rw [Nat.zero_add]; exact bS bj (qv) i 8 (u) ({ u with q := { u.q with bk := bv.nm } }) _ hat rfl) J J ?_
        repeat' (first | refine ag ?_ | refine aa ?_ | refine ab ?_ | refine ae ?_ | ((refine' ak rfl ?_ J J ?_); rotate_left; first | exact ai af J J J J | exact ah af 3 J J J J J))
        refine bf (σ := Option Addr × Nat) (fun _ => True) (fun p => .slice p.1 v.c.bs.length p.2) (fun p => [.own p.1 p.2 64 6 v.c.bs.length ((bR cG bs k).flatMap bC)]) rfl (ay J J J J ⟨J, J, trivial⟩ rfl (by kernel_rfl)) (fun w1 hm => zu (some ⟨gb, 0, none⟩) bs v.c.bs.length bc k bv w1 (tS hI.bl (hm.2.get (i := 1) rfl)) hI.bl hzb hbv (hI.ok bv (List.mem_of_getElem? hbv))) J J ?_
        rintro ⟨pb, pbc⟩ -
        refine dN (fun w hM => (hM.perm (List.Perm.swap _ _ _)).mask [true, true, false] rfl) ?_
        dsimp only [dV, List.append_eq, List.cons_append, List.nil_append]
        have hat1 := fQ hat { u with q := { u.q with bk := bv.nm } }
        repeat' (first | refine ag ?_ | refine aa ?_ | refine ab ?_ | refine ae ?_ | ((refine' ak rfl ?_ J J ?_); rotate_left; first | exact cw af 0 (v := .int .i64 u.q.att) J J J J J J (fun _ => by rw [Nat.zero_add]; exact br bj hat1 (k := 7) rfl) | exact a6 J J J J J (by omega) | exact ai af J J J J) | refine aj af 3 J J J J J J J J J J J J ?_)
        refine ce af 0 J J J J J J J J J (show gQ _ (0 + i * 15 + 7) _ = _ from by rw [Nat.zero_add]; exact bS bj (qv.set i { u with q := { u.q with bk := bv.nm } }) i 7 ({ u with q := { u.q with bk := bv.nm } }) ({ u with q := { u.q with bk := bv.nm, att := u.q.att + 1 } }) _ hat1 rfl) J J ?_
        have hat2 := fQ hat1 { u with q := { u.q with bk := bv.nm, att := u.q.att + 1 } }
        have hV : lZ bs k u = { u with q := { u.q with bk := bv.nm, att := u.q.att + 1 } } := by unfold lZ f0; rw [hbv]
        repeat' (first | refine ag ?_ | refine aa ?_ | refine ab ?_ | refine ae ?_ | ((refine' ak rfl ?_ J J ?_); rotate_left; first | exact cw af 0 (v := .int .i64 (u.q.att + 1)) J J J J J J (fun _ => by rw [Nat.zero_add]; exact br bj hat2 (k := 7) rfl) | exact ai af J J J J | exact aq af J J J J J J))
        by_cases ha : u.q.att + 1 = 1
        · refine aw rfl (by simpa using ha) ?_
          have htk : (if u.q.att + 1 = 1 then dt tk v.c.mo v.c.gn else tk) = dt tk v.c.mo v.c.gn := if_pos ha
          repeat' (first | refine aa ?_ | refine ab ?_ | refine ae ?_ | ((refine' ak rfl ?_ J J ?_); rotate_left; first | exact iu af 0 (cs := QC ({ u with q := { u.q with bk := bv.nm, att := u.q.att + 1 } } : QV)) J J J J J J (fun _ j c hc => by rw [Nat.zero_add]; exact br bj hat2 hc) | exact ai af J J J J | exact ah af 3 J J J J J) | refine aG rfl (ay J J J J ⟨J, trivial⟩ rfl (by kernel_rfl)) (fun w hm => sZ tk v.c.mo v.c.gn w) J J ?_ | refine aj af 3 J J J J J J J J J J J J ?_)
          refine bf (σ := QV) (fun s => s.q = ({ u with q := { u.q with bk := bv.nm, att := u.q.att + 1 } } : QV).q) (fun s => .agg ⟨QC s⟩) EQ rfl (ay J J J J ⟨J, trivial⟩ rfl (by kernel_rfl)) (fun w1 hm => fB ({ u with q := { u.q with bk := bv.nm, att := u.q.att + 1 } } : QV) w1 (QOk.own (v := u) (qN (hm.2.sub ((List.sublist_append_left _ _).trans (List.sublist_append_right [_, _, _, _, _, _] _))) (List.mem_of_getElem? hu))) (wG hq1 hz u (List.mem_of_getElem? hu))) J J ?_
          rintro vn hvn
          dsimp only [EQ, List.cons_append, List.nil_append]
          repeat' (first | refine aa ?_ | refine ab ?_ | refine ax ?_ | refine ae ?_ | (refine bq af J J J ⟨J, trivial⟩ J J J J J J J J ?_; intro g) | (refine bK af 6 0 J J J J J J J J J (fun _ _ => rfl) eR J J (by unfold maxLen; omega) (by omega) J J ?_; intro sa sc) | ((refine' ak rfl ?_ J J ?_); rotate_left; first | exact a6 J J J J J (by omega) | exact ai af J J J J))
          refine kE (M' := .own (some ⟨gx, 0, none⟩) xc1 50 15 qv1.length ((qv.set i (lZ bs k u)).flatMap QC) :: .own pb pbc 64 6 v.c.bs.length ((bR cG bs k).flatMap bC) :: .own sa sc 50 15 (lq ++ [vn]).length ((lq ++ [vn]).flatMap QC) :: .cl g6 32 [.slice pb v.c.bs.length pbc, .int .i64 v.c.ra, .int .i64 v.c.rb, .int .i64 v.c.rc, .int .i64 v.c.rk, .int .i64 (if u.q.att + 1 = 1 then dt tk v.c.mo v.c.gn else tk), .int .i64 v.c.mo, .int .i64 v.c.gn, .slice (some ⟨gx, 0, none⟩) qv1.length xc1, .int .i64 v.c.nx] :: .cl g4 32 [.slice none 0 0, .int .i64 0, .int .i64 0, .int .i64 0, .int .i64 0, .int .i64 0, .int .i64 0, .int .i64 0, .slice none 0 0, .int .i64 0] :: .cl g2 32 [.slice v.b v.c.bs.length v.bc, .int .i64 v.c.ra, .int .i64 v.c.rb, .int .i64 v.c.rc, .int .i64 v.c.rk, .int .i64 v.c.tk, .int .i64 v.c.mo, .int .i64 v.c.gn, .slice v.x v.qv.length v.xc, .int .i64 v.c.nx] :: (qv1.flatMap EQ ++ (lq ++ [vn]).flatMap EQ)) (fun w hM => ?_) ?_
          · have h9 := (hM.mask [false] rfl).perm (yv (EQ vn) [_, _, _, _, _, _] _)
            rw [htk, hV, List.flatMap_append (xs := lq), List.flatMap_append (xs := lq), List.flatMap_singleton, List.flatMap_singleton, List.length_append, ← List.append_assoc (qv1.flatMap EQ)]
            rw [List.set_set] at h9
            exact h9
          · refine aR ⟨i + 1, qv.set i (lZ bs k u), pb, pbc, bR cG bs k, (if u.q.att + 1 = 1 then dt tk v.c.mo v.c.gn else tk), sa, sc, lq ++ [vn]⟩ [] (hI.yes hu hi hyes (by rw [hvn]; unfold f0; rw [hbv])) (show qv1.length - (i + 1) < qv1.length - i by omega) ⟨rfl, rfl, rfl, by simp [lk], rfl, rfl, trivial⟩ rfl
        · refine am rfl (by simpa using ha) ?_
          have htk : (if u.q.att + 1 = 1 then dt tk v.c.mo v.c.gn else tk) = tk := if_neg ha
          repeat' (first | refine aa ?_ | refine ab ?_ | refine au ?_ | ((refine' ak rfl ?_ J J ?_); rotate_left; first | exact iu af 0 (cs := QC ({ u with q := { u.q with bk := bv.nm, att := u.q.att + 1 } } : QV)) J J J J J J (fun _ j c hc => by rw [Nat.zero_add]; exact br bj hat2 hc) | exact ai af J J J J))
          refine bf (σ := QV) (fun s => s.q = ({ u with q := { u.q with bk := bv.nm, att := u.q.att + 1 } } : QV).q) (fun s => .agg ⟨QC s⟩) EQ rfl (ay J J J J ⟨J, trivial⟩ rfl (by kernel_rfl)) (fun w1 hm => fB ({ u with q := { u.q with bk := bv.nm, att := u.q.att + 1 } } : QV) w1 (QOk.own (v := u) (qN (hm.2.sub ((List.sublist_append_left _ _).trans (List.sublist_append_right [_, _, _, _, _, _] _))) (List.mem_of_getElem? hu))) (wG hq1 hz u (List.mem_of_getElem? hu))) J J ?_
          rintro vn hvn
          dsimp only [EQ, List.cons_append, List.nil_append]
          repeat' (first | refine aa ?_ | refine ab ?_ | refine ax ?_ | refine ae ?_ | (refine bq af J J J ⟨J, trivial⟩ J J J J J J J J ?_; intro g) | (refine bK af 6 0 J J J J J J J J J (fun _ _ => rfl) eR J J (by unfold maxLen; omega) (by omega) J J ?_; intro sa sc) | ((refine' ak rfl ?_ J J ?_); rotate_left; first | exact a6 J J J J J (by omega) | exact ai af J J J J))
          refine kE (M' := .own (some ⟨gx, 0, none⟩) xc1 50 15 qv1.length ((qv.set i (lZ bs k u)).flatMap QC) :: .own pb pbc 64 6 v.c.bs.length ((bR cG bs k).flatMap bC) :: .own sa sc 50 15 (lq ++ [vn]).length ((lq ++ [vn]).flatMap QC) :: .cl g6 32 [.slice pb v.c.bs.length pbc, .int .i64 v.c.ra, .int .i64 v.c.rb, .int .i64 v.c.rc, .int .i64 v.c.rk, .int .i64 (if u.q.att + 1 = 1 then dt tk v.c.mo v.c.gn else tk), .int .i64 v.c.mo, .int .i64 v.c.gn, .slice (some ⟨gx, 0, none⟩) qv1.length xc1, .int .i64 v.c.nx] :: .cl g4 32 [.slice none 0 0, .int .i64 0, .int .i64 0, .int .i64 0, .int .i64 0, .int .i64 0, .int .i64 0, .int .i64 0, .slice none 0 0, .int .i64 0] :: .cl g2 32 [.slice v.b v.c.bs.length v.bc, .int .i64 v.c.ra, .int .i64 v.c.rb, .int .i64 v.c.rc, .int .i64 v.c.rk, .int .i64 v.c.tk, .int .i64 v.c.mo, .int .i64 v.c.gn, .slice v.x v.qv.length v.xc, .int .i64 v.c.nx] :: (qv1.flatMap EQ ++ (lq ++ [vn]).flatMap EQ)) (fun w hM => ?_) ?_
          · have h9 := (hM.mask [false] rfl).perm (yv (EQ vn) [_, _, _, _, _, _] _)
            rw [htk, hV, List.flatMap_append (xs := lq), List.flatMap_append (xs := lq), List.flatMap_singleton, List.flatMap_singleton, List.length_append, ← List.append_assoc (qv1.flatMap EQ)]
            rw [List.set_set] at h9
            exact h9
          · refine aR ⟨i + 1, qv.set i (lZ bs k u), pb, pbc, bR cG bs k, (if u.q.att + 1 = 1 then dt tk v.c.mo v.c.gn else tk), sa, sc, lq ++ [vn]⟩ [] (hI.yes hu hi hyes (by rw [hvn]; unfold f0; rw [hbv])) (show qv1.length - (i + 1) < qv1.length - i by omega) ⟨rfl, rfl, rfl, by simp [lk], rfl, rfl, trivial⟩ rfl
    · have hno : (if fG (bI now) u.q = true then cK (bI now) bs else none) = none := if_neg hdu
      refine aw rfl (by rw [nG, eq_false_of_ne_true hdu]; rfl) ?_
      repeat' (first | refine aa ?_ | refine ab ?_ | refine a8 ?_ | refine aH ?_ | refine aN ?_ | refine ae ?_ | ((refine' ak rfl ?_ J J ?_); rotate_left; first | exact a6 J J J J J (by omega) | exact ai af J J J J))
      refine aR ⟨i + 1, qv, b, bc, bs, tk, la, lc, lq⟩ [] (hI.no hu hi hno) (show qv1.length - (i + 1) < qv1.length - i by omega) ⟨J, J, J, J, J, J, trivial⟩ rfl
  · have hin : i = qv1.length := by have := hI.le; omega
    subst hin
    have hgo := hI.go
    rw [List.drop_length, List.map_nil, show bB (bI now) v.c.mo v.c.gn [] bs tk = ⟨[], bs, tk, []⟩ from rfl, List.append_nil, List.append_nil, List.take_of_length_le (by rw [hI.len]; exact Nat.le_refl _)] at hgo
    have hst : cD v.c now = ({ v.c with qs := qv.map (·.q), bs := bs, tk := tk }, lq.map (·.q)) := by unfold cD; rw [hgo]
    repeat' (first | refine ag ?_ | refine aa ?_ | refine ab ?_ | refine ae ?_ | ((refine' ak rfl ?_ J J ?_); rotate_left; exact aq af J J J J J J))
    refine am rfl (by simp) ?_
    repeat' (first | refine ag ?_ | refine aa ?_ | refine ab ?_ | refine aA ?_ | refine a8 ?_ | refine aH ?_ | refine aN ?_ | refine ae ?_ | ((refine' ak rfl ?_ J J ?_); rotate_left; first | exact ai af J J J J | exact ah af 3 J J J J J) | refine aj af 4 J J J J J J J J J J J J ?_)
    (refine aB af (fun _ => 4) J J ⟨J, trivial⟩ rfl fun w1 hm => ⟨(⟨(cD v.c now).1, b, bc, x1, xc1, qv⟩, lq, (la, lc)), ⟨rfl, by rw [hst]⟩, ?_, Out.made ?_ (by rw [hst]), Rws.own bj (hm.2.get (i := 2) rfl), fun q hq => QOk.own (qN (hm.2.sub ((List.sublist_append_right _ _).trans (List.sublist_append_right [_, _, _, _, _, _] _))) hq)⟩)
    · rw [hst]
      simp only [CC, hI.bl, hI.len]
    · rw [hst]
      have h9 := hm.mask [true, true, false, false, false, false] rfl
      simp only [EC, hI.bl, hI.len, hI.eq]
      exact ⟨h9.1, h9.2.sub (List.sublist_append_left ([_, _] ++ qv1.flatMap EQ) _)⟩
end Go.Proofs.YtmdkfbmpenohiaaGreatDoor.Y
namespace Go.Proofs.YtmdkfbmpenohiaaGreatDoor.Y
open Go.RowKit
theorem b7 {P : Program} {T : List (TypeId × TD)} {w0 : World} {S : bM} {M : List Ent} {L L1 L2 : Cd} {o : Oper} (hT : TOK P T) (j : Nat) {t : TypeId} {x y : Operand} {b off len cap : Nat} {sx : Option Addr} {ik : IntKind} {i : Int} {e : TypeId} {z : Value} {td : TD} {m : Nat} (h1 : o.op = .indexAddr t x y) (hx : sx = some ⟨b, off, none⟩) (h2 : ev S x = some (L1, .slice sx len cap)) (h3 : Suf L1 L)
    (h4 : ev S y = some (L2, .int ik i)) (h5 : Suf L2 L) (h6 : lk t T = some (.slc e z)) (h7 : lk e T = some td) (h8 : Nat.beq td.size m = true) (hi : aL L = true → i = (j : Int)) (hj : aL L = true → j < len) : VO P w0 S M L o (.pointer (some ⟨b, off + j * m, none⟩)) := by subst hx; exact bA hT j h1 h2 h3 h4 h5 h6 h7 h8 hi hj
def yA (v : QV) : List Ent := [.own v.s v.sc 9 1 v.q.mg.length (v.q.mg.flatMap sC), .own v.m v.mc 119 2 v.q.ms.length (v.q.ms.flatMap mC)]
def xT (v : QV) : Ent := .own v.a v.ac 9 1 v.q.an.length (v.q.an.flatMap sC)
theorem qV {u : QV} : ∀ {l : List QV} {k : Nat}, l[k]? = some u → (l.flatMap EQ).Perm (xT u :: (yA u ++ (l.eraseIdx k).flatMap EQ))
  | [], _, h => by simp at h
  | a :: l, 0, h => by
    obtain rfl : a = u := by simpa using h
    exact List.Perm.refl _
  | a :: l, k + 1, h => by
    have ih := qV (l := l) (k := k) (by simpa using h)
    rw [List.flatMap_cons, List.eraseIdx_cons_succ, List.flatMap_cons]
    refine (List.Perm.append_left _ ih).trans ?_
    refine List.perm_middle.trans (List.Perm.cons _ ?_)
    rw [← List.append_assoc, ← List.append_assoc]
    exact List.Perm.append_right _ List.perm_append_comm
theorem oL {u : QV} {l : List QV} {k : Nat} (E : List Ent) (h : l[k]? = some u) : (E ++ l.flatMap EQ).Perm (xT u :: (E ++ (yA u ++ (l.eraseIdx k).flatMap EQ))) := (List.Perm.append_left E (qV h)).trans List.perm_middle
theorem vK {u u' : QV} {l : List QV} {k : Nat} (E : List Ent) (h : l[k]? = some u) (hr : yA u' = yA u) : (xT u' :: (E ++ (yA u ++ (l.eraseIdx k).flatMap EQ))).Perm (E ++ (l.set k u').flatMap EQ) := by
  have h1 := oL E (fQ h u')
  rw [List.eraseIdx_set_eq, hr] at h1
  exact h1.symm
set_option maxRecDepth 100000 in
set_option maxHeartbeats 8000000 in
theorem tT {A : Nat → Prop} (v : CV) (id st : Int) (w : World) (hC : COk A w v) (hzq : v.qv.length ≤ 703687441776) (hzb : v.c.bs.length ≤ 2513169434916) (hz : ∀ u ∈ v.qv, eP u.q) : Calls Tryz.prog 29 #[.agg #[.slice v.b v.c.bs.length v.bc, .int .i64 v.c.ra, .int .i64 v.c.rb, .int .i64 v.c.rc, .int .i64 v.c.rk, .int .i64 v.c.tk, .int .i64 v.c.mo, .int .i64 v.c.gn, .slice v.x v.qv.length v.xc, .int .i64 v.c.nx], .int .i64 id, .int .i64 st] w fun e w' => ∃ v' : CV, v'.c = (cC v.c id st).1 ∧ e = .returned (.tuple #[.agg ⟨CC v'⟩, .int .i64 (cC v.c id st).2]) ∧ Out A w w' v' := by
  obtain ⟨er, her⟩ : ∃ e, el v.c id = e := ⟨_, rfl⟩
  obtain ⟨k, hkr⟩ : ∃ k, dZ v.c id = k := ⟨_, rfl⟩
  refine aD Tryz.func29 rfl Tryz.ntmps29 J J ?_
  refine ag ?_
  refine aa ?_
  (refine aT J J J J J J ?_; intro g3)
  (refine aF af J J J J J J ?_; intro g6)
  repeat' (first | refine ag ?_ | refine aa ?_ | refine ab ?_ | refine aE ?_ | refine ae ?_ | ((refine' ak rfl ?_ J J ?_); rotate_left; first | exact ai af J J J J | exact aq af J J J J J J | exact ah af 1 J J J J J) | refine aG rfl (ay J J J J ⟨J, J, trivial⟩ rfl (by kernel_rfl)) (fun w hm => (tQ v id er k w (hC.below hm.below) hzq her hkr)) J J ?_)
  by_cases he0 : er = 0
  · subst he0
    refine am J J ?_
    obtain ⟨q0, hq0, hqb⟩ := j3 her
    rw [hkr] at hq0
    obtain ⟨u, hu0, hu1⟩ : ∃ u, v.qv[k]? = some u ∧ u.q = q0 := by rw [hC.eq, List.getElem?_map] at hq0; simpa using hq0
    have hat := eQ hC.eq hu0
    have hk : k < v.qv.length := (List.getElem?_eq_some_iff.1 hu0).1
    obtain ⟨bb, off, hx, _, _, hrows⟩ := hC.qs (by omega)
    have hrow : w.rangeAt bb (off + k * 15) (QC u) := hrows k u hu0
    repeat' (first | refine ag ?_ | refine aa ?_ | refine ab ?_ | refine ae ?_ | ((refine' ak rfl ?_ J J ?_); rotate_left; first | exact b7 af (m := 15) k rfl hx J J J J J J J (fun _ => rfl) (fun _ => hk) | exact bT af (v := .int .i64 u.q.st) J J J J J (fun _ => hrow 9 _ rfl) | exact ai af J J J J | exact aq af J J J J J J | exact ah af 1 J J J J J))
    by_cases hs : u.q.st = 0
    · refine am rfl (by simp [hs]) ?_
      repeat' (first | refine ag ?_ | refine aa ?_ | refine ab ?_ | refine ae ?_ | ((refine' ak rfl ?_ J J ?_); rotate_left; first | exact ai af J J J J | exact aq af J J J J J J | exact bp J J J J J))
      by_cases hr : st < 1 ∨ 2147483647 < st
      · have hen : cC v.c id st = (v.c, 1) := by unfold cC; rw [her, hkr, if_neg (by decide), hat, if_neg (by simpa using hs), if_pos hr]
        refine aw rfl (by simp; omega) ?_
        repeat' (first | refine ag ?_ | refine aa ?_ | refine ab ?_ | refine aA ?_ | refine ar ?_ | refine aQ ?_ | refine ae ?_ | ((refine' ak rfl ?_ J J ?_); rotate_left; first | exact ai af J J J J | exact ah af 1 J J J J J) | refine aj af 0 J J J J J J J J J J J J ?_)
        (refine aB af (fun _ => 0) J J ⟨J, trivial⟩ rfl fun w1 hm => ⟨v, ?_, ?_, Out.same hC hm.below⟩)
        · rw [hen]
        · rw [hen]
          rfl
      · have hen : cC v.c id st = (bZ v.c k (fun q => { q with st := st }), 0) := by unfold cC; rw [her, hkr, if_neg (by decide), hat, if_neg (by simpa using hs), if_neg hr]
        refine am rfl (by simp; omega) ?_
        repeat' (first | refine ag ?_ | refine aa ?_ | refine ab ?_ | refine au ?_ | refine ax ?_ | ((refine' ak rfl ?_ J J ?_); rotate_left; exact ah af 1 J J J J J))
        refine bf (σ := CV) (fun s => s.c = v.c ∧ s.qv.map (·.q) = v.qv.map (·.q)) (fun s => .agg ⟨CC s⟩) EC rfl (ay J J J J ⟨J, trivial⟩ rfl (by kernel_rfl)) (fun w1 hm => dR v w1 (hC.below hm.below) hzb (by omega) hz) J J ?_
        rintro ⟨c1, b1, bc1, x1, xc1, qv1⟩ ⟨hc1, hq1⟩
        dsimp only at hc1 hq1
        subst hc1
        have hln := eW hq1
        refine dN (fun w hM => hM.perm (qf [_, _] _ _)) ?_
        dsimp only [List.cons_append, List.nil_append]
        have hk1 : k < qv1.length := by rw [hln]; exact hk
        obtain ⟨u1, hu1'⟩ : ∃ u, qv1[k]? = some u := ⟨_, List.getElem?_eq_getElem hk1⟩
        have hqm : v.c.qs = qv1.map (·.q) := by rw [hC.eq, hq1]
        refine nC 0 rfl (by show 0 < qv1.length; omega) ?_
        rintro gx hx1
        subst hx1
        repeat' (first | refine ag ?_ | refine aa ?_ | refine ab ?_ | refine ae ?_ | (refine aF af J J J J J J ?_; intro g10) | ((refine' ak rfl ?_ J J ?_); rotate_left; first | exact bA af (m := 15) k J J J J J J J J (fun _ => rfl) (fun _ => hk1) | exact ai af J J J J | exact ah af 0 J J J J J) | refine aj af 0 J J J J J J J J J J J J ?_)
        skip
        refine ce af 1 J J J J J J J J J (show gQ _ (0 + k * 15 + 9) _ = _ from by rw [Nat.zero_add]; exact bS bj (qv1) k 9 (u1) ({ u1 with q := { u1.q with st := st } }) _ hu1' rfl) J J ?_
        repeat' (first | refine ag ?_ | refine aa ?_ | refine ab ?_ | refine aA ?_ | refine ae ?_ | ((refine' ak rfl ?_ J J ?_); rotate_left; first | exact ai af J J J J | exact ah af 0 J J J J J) | refine aj af 3 J J J J J J J J J J J J ?_)
        (refine aB af (fun _ => 3) J J ⟨J, trivial⟩ rfl fun w1 hm => ⟨⟨(cC v.c id st).1, b1, bc1, some ⟨gx, 0, none⟩, xc1, qv1.set k { u1 with q := { u1.q with st := st } }⟩, rfl, ?_, ?_⟩)
        · rw [hen]; simp [CC, bZ]
        · refine Out.made ?_ (by rw [hen]; simp only [bZ]; rw [hqm]; exact (gF hu1' (fun _ => { u1 with q := { u1.q with st := st } }) _ rfl).symm)
          rw [hen]
          have h9 := hm.mask [false, true, true, false, false] rfl
          simp only [EC, bZ, List.length_set]
          rw [j1 hu1' (u' := { u1 with q := { u1.q with st := st } }) rfl]
          exact h9
    · have hen : cC v.c id st = (v.c, 20) := by unfold cC; rw [her, hkr, if_neg (by decide), hat, if_pos hs]
      refine aw rfl (by simpa using hs) ?_
      repeat' (first | refine ag ?_ | refine aa ?_ | refine ab ?_ | refine aA ?_ | refine ar ?_ | refine aQ ?_ | refine ae ?_ | ((refine' ak rfl ?_ J J ?_); rotate_left; first | exact ai af J J J J | exact ah af 1 J J J J J) | refine aj af 0 J J J J J J J J J J J J ?_)
      (refine aB af (fun _ => 0) J J ⟨J, trivial⟩ rfl fun w1 hm => ⟨v, ?_, ?_, Out.same hC hm.below⟩)
      · rw [hen]
      · rw [hen]
        rfl
  · refine aw rfl (by simpa using he0) ?_
    have hen : cC v.c id st = (v.c, er) := by unfold cC; rw [her, if_pos he0]
    repeat' (first | refine ag ?_ | refine aa ?_ | refine ab ?_ | refine aA ?_ | refine ar ?_ | refine aQ ?_ | refine ae ?_ | ((refine' ak rfl ?_ J J ?_); rotate_left; first | exact ai af J J J J | exact ah af 1 J J J J J) | refine aj af 0 J J J J J J J J J J J J ?_)
    (refine aB af (fun _ => 0) J J ⟨J, trivial⟩ rfl fun w1 hm => ⟨v, ?_, ?_, Out.same hC hm.below⟩)
    · rw [hen]
    · rw [hen]; rfl
set_option maxRecDepth 100000 in
set_option maxHeartbeats 8000000 in
theorem tU {A : Nat → Prop} (v : CV) (id : Int) (m : ByteArray) (w : World) (hC : COk A w v) (hzq : v.qv.length ≤ 703687441776) (hzb : v.c.bs.length ≤ 2513169434916) (hz : ∀ u ∈ v.qv, eP u.q) (han : ∀ q ∈ v.c.qs, q.an.length < 8796093022208) : Calls Tryz.prog 30 #[.agg #[.slice v.b v.c.bs.length v.bc, .int .i64 v.c.ra, .int .i64 v.c.rb, .int .i64 v.c.rc, .int .i64 v.c.rk, .int .i64 v.c.tk, .int .i64 v.c.mo, .int .i64 v.c.gn, .slice v.x v.qv.length v.xc, .int .i64 v.c.nx], .int .i64 id, .string m] w fun e w' => ∃ v' : CV, v'.c = (cy v.c id m).1 ∧ e = .returned (.tuple #[.agg ⟨CC v'⟩, .int .i64 (cy v.c id m).2]) ∧ Out A w w' v' := by
  obtain ⟨er, her⟩ : ∃ e, el v.c id = e := ⟨_, rfl⟩
  obtain ⟨k, hkr⟩ : ∃ k, dZ v.c id = k := ⟨_, rfl⟩
  refine aD Tryz.func30 rfl Tryz.ntmps30 J J ?_
  refine ag ?_
  refine aa ?_
  (refine aT J J J J J J ?_; intro g3)
  (refine aF af J J J J J J ?_; intro g6)
  repeat' (first | refine ag ?_ | refine aa ?_ | refine ab ?_ | refine ae ?_ | ((refine' ak rfl ?_ J J ?_); rotate_left; first | exact ai af J J J J | exact aq af J J J J J J | exact ah af 1 J J J J J) | refine aG rfl (ay J J J J ⟨J, J, trivial⟩ rfl (by kernel_rfl)) (fun w hm => (tQ v id er k w (hC.below hm.below) hzq her hkr)) J J ?_)
  by_cases he0 : er = 0
  · subst he0
    refine am J J ?_
    obtain ⟨q0, hq0, hqb⟩ := j3 her
    rw [hkr] at hq0
    obtain ⟨u, hu0, hu1⟩ : ∃ u, v.qv[k]? = some u ∧ u.q = q0 := by rw [hC.eq, List.getElem?_map] at hq0; simpa using hq0
    have hat := eQ hC.eq hu0
    have hk : k < v.qv.length := (List.getElem?_eq_some_iff.1 hu0).1
    obtain ⟨bb, off, hx, _, _, hrows⟩ := hC.qs (by omega)
    have hrow : w.rangeAt bb (off + k * 15) (QC u) := hrows k u hu0
    have hlt := han _ (List.mem_of_getElem? hq0)
    rw [← hu1] at hlt
    repeat' (first | refine ag ?_ | refine aa ?_ | refine ab ?_ | refine au ?_ | refine ae ?_ | ((refine' ak rfl ?_ J J ?_); rotate_left; first | exact ai af J J J J | exact aq af J J J J J J | exact aO af J J J J J J J))
    by_cases hms : 16384 < m.size
    · have hen : cy v.c id m = (v.c, 3) := by unfold cy; rw [her, if_neg (by decide), if_pos hms]
      refine aw rfl (by simp; omega) ?_
      repeat' (first | refine ag ?_ | refine aa ?_ | refine ab ?_ | refine aA ?_ | refine ar ?_ | refine ae ?_ | ((refine' ak rfl ?_ J J ?_); rotate_left; first | exact ai af J J J J | exact ah af 1 J J J J J) | refine aj af 0 J J J J J J J J J J J J ?_)
      (refine aB af (fun _ => 0) J J ⟨J, trivial⟩ rfl fun w1 hm => ⟨v, ?_, ?_, Out.same hC hm.below⟩)
      · rw [hen]
      · rw [hen]
        rfl
    · refine am rfl (by simp; omega) ?_
      repeat' (first | refine ag ?_ | refine aa ?_ | refine ab ?_ | refine au ?_ | refine ae ?_ | ((refine' ak rfl ?_ J J ?_); rotate_left; first | exact b7 af (m := 15) k rfl hx J J J J J J J (fun _ => rfl) (fun _ => hk) | exact bT af (v := .int .i64 u.q.sh) J J J J J (fun _ => hrow 5 _ rfl) | exact bT af (v := .slice u.a u.q.an.length u.ac) J J J J J (fun _ => hrow 11 _ rfl) | exact ai af J J J J | exact aq af J J J J J J | exact bx J J J J J | exact ah af 1 J J J J J | exact aO af J J J J J J J) | refine aG rfl (ay J J J J ⟨J, trivial⟩ rfl (by kernel_rfl)) (fun w hm => kz (counts u.q.sh w)) J J ?_)
      by_cases hr : 0 ≤ c4 u.q.sh ∧ c4 u.q.sh ≤ u.q.an.length
      · have hen : cy v.c id m = (v.c, 11) := by unfold cy; rw [her, hkr, if_neg (by decide), if_neg hms, hat, if_pos hr]
        refine aw rfl (by simpa using hr) ?_
        repeat' (first | refine ag ?_ | refine aa ?_ | refine ab ?_ | refine aA ?_ | refine ar ?_ | refine ae ?_ | ((refine' ak rfl ?_ J J ?_); rotate_left; first | exact ai af J J J J | exact ah af 1 J J J J J) | refine aj af 0 J J J J J J J J J J J J ?_)
        (refine aB af (fun _ => 0) J J ⟨J, trivial⟩ rfl fun w1 hm => ⟨v, ?_, ?_, Out.same hC hm.below⟩)
        · rw [hen]
        · rw [hen]
          rfl
      · have hen : cy v.c id m = (bZ v.c k (fun q => { q with an := q.an ++ [m] }), 0) := by unfold cy; rw [her, hkr, if_neg (by decide), if_neg hms, hat, if_neg hr]
        refine am rfl (by simp only [Bool.and_eq_false_iff, decide_eq_false_iff_not]; omega) ?_
        repeat' (first | refine ag ?_ | refine aa ?_ | refine ab ?_ | refine au ?_ | ((refine' ak rfl ?_ J J ?_); rotate_left; exact ah af 1 J J J J J))
        refine bf (σ := CV) (fun s => s.c = v.c ∧ s.qv.map (·.q) = v.qv.map (·.q)) (fun s => .agg ⟨CC s⟩) EC rfl (ay J J J J ⟨J, trivial⟩ rfl (by kernel_rfl)) (fun w1 hm => dR v w1 (hC.below hm.below) hzb (by omega) hz) J J ?_
        rintro ⟨c1, b1, bc1, x1, xc1, qv1⟩ ⟨hc1, hq1⟩
        dsimp only at hc1 hq1
        subst hc1
        have hln := eW hq1
        refine dN (fun w hM => hM.perm (qf [_, _] _ _)) ?_
        dsimp only [List.cons_append, List.nil_append]
        have hk1 : k < qv1.length := by rw [hln]; exact hk
        obtain ⟨u1, hu1'⟩ : ∃ u, qv1[k]? = some u := ⟨_, List.getElem?_eq_getElem hk1⟩
        have hqm : v.c.qs = qv1.map (·.q) := by rw [hC.eq, hq1]
        have hlt1 : u1.q.an.length < 8796093022208 := han _ (by rw [hqm]; exact List.mem_map_of_mem (List.mem_of_getElem? hu1'))
        refine nC 0 rfl (by show 0 < qv1.length; omega) ?_
        rintro gx hx1
        subst hx1
        refine dN (fun w hM => hM.perm (oL [_, _, _, _] hu1')) ?_
        dsimp only [List.cons_append, List.nil_append, xT]
        repeat' (first | refine ag ?_ | refine aa ?_ | refine ab ?_ | refine ae ?_ | (refine aF af J J J J J J ?_; intro g14) | ((refine' ak rfl ?_ J J ?_); rotate_left; first | exact bA af (m := 15) k J J J J J J J J (fun _ => rfl) (fun _ => hk1) | exact ai af J J J J | exact ah af 0 J J J J J) | refine aj af 0 J J J J J J J J J J J J ?_)
        repeat' (first | (refine bq af J J J ⟨J, trivial⟩ J J J J J J J J ?_; intro g) | (refine bK af 2 0 J J J J J J J J J (fun _ _ => rfl) ow J J (by unfold maxLen; omega) (by omega) J J ?_; intro sa sc) | ((refine' ak rfl ?_ J J ?_); rotate_left; first | exact cw af 2 (v := .slice u1.a u1.q.an.length u1.ac) J J J J J J (fun _ => by rw [Nat.zero_add]; exact br bj hu1' (k := 11) rfl) | exact ai af J J J J))
        refine ce af 3 J J J J J J J J J (show gQ _ (0 + k * 15 + 11) _ = _ from by rw [Nat.zero_add]; exact bS bj (qv1) k 11 (u1) ({ u1 with q := { u1.q with an := u1.q.an ++ [m] }, a := sa, ac := sc }) _ hu1' (by simp [QC, gQ])) J J ?_
        repeat' (first | refine ag ?_ | refine aa ?_ | refine ab ?_ | refine aA ?_ | refine ae ?_ | ((refine' ak rfl ?_ J J ?_); rotate_left; first | exact ai af J J J J | exact ah af 1 J J J J J) | refine aj af 5 J J J J J J J J J J J J ?_)
        (refine aB af (fun _ => 5) J J ⟨J, trivial⟩ rfl fun w1 hm => ⟨⟨(cy v.c id m).1, b1, bc1, some ⟨gx, 0, none⟩, xc1, qv1.set k { u1 with q := { u1.q with an := u1.q.an ++ [m] }, a := sa, ac := sc }⟩, rfl, ?_, ?_⟩)
        · rw [hen]; simp [CC, bZ]
        · refine Out.made ?_ (by rw [hen]; simp only [bZ]; rw [hqm]; exact (gF hu1' (fun _ => { u1 with q := { u1.q with an := u1.q.an ++ [m] }, a := sa, ac := sc }) _ rfl).symm)
          rw [hen]
          have h9 := hm.mask [false, false, true, true, true, false, false] rfl
          have e1 : xT { u1 with q := { u1.q with an := u1.q.an ++ [m] }, a := sa, ac := sc } = .own sa sc 9 1 (u1.q.an.length + 1) (u1.q.an.flatMap sC ++ [.string m]) := by simp [xT, sC]
          simp only [EC, bZ, List.length_set]
          have h10 := vK (u' := { u1 with q := { u1.q with an := u1.q.an ++ [m] }, a := sa, ac := sc }) [.own (some ⟨gx, 0, none⟩) xc1 50 15 qv1.length ((qv1.set k { u1 with q := { u1.q with an := u1.q.an ++ [m] }, a := sa, ac := sc }).flatMap QC), .own b1 bc1 64 6 v.c.bs.length (v.c.bs.flatMap bC)] hu1' rfl
          rw [e1] at h10
          exact h9.perm h10
  · refine aw rfl (by simpa using he0) ?_
    have hen : cy v.c id m = (v.c, er) := by unfold cy; rw [her, if_pos he0]
    repeat' (first | refine ag ?_ | refine aa ?_ | refine ab ?_ | refine aA ?_ | refine ar ?_ | refine ae ?_ | ((refine' ak rfl ?_ J J ?_); rotate_left; first | exact ai af J J J J | exact ah af 1 J J J J J) | refine aj af 0 J J J J J J J J J J J J ?_)
    (refine aB af (fun _ => 0) J J ⟨J, trivial⟩ rfl fun w1 hm => ⟨v, ?_, ?_, Out.same hC hm.below⟩)
    · rw [hen]
    · rw [hen]; rfl
set_option maxRecDepth 100000 in
set_option maxHeartbeats 8000000 in
theorem tV {A : Nat → Prop} (v : CV) (now id : Int) (w : World) (hC : COk A w v) (hzq : v.qv.length ≤ 703687441776) (hzb : v.c.bs.length ≤ 2513169434916) (hz : ∀ u ∈ v.qv, eP u.q) (hbo : ∀ b ∈ v.c.bs, dK b = true) : Calls Tryz.prog 31 #[.agg #[.slice v.b v.c.bs.length v.bc, .int .i64 v.c.ra, .int .i64 v.c.rb, .int .i64 v.c.rc, .int .i64 v.c.rk, .int .i64 v.c.tk, .int .i64 v.c.mo, .int .i64 v.c.gn, .slice v.x v.qv.length v.xc, .int .i64 v.c.nx], .int .i64 now, .int .i64 id] w fun e w' => ∃ v' : CV, v'.c = (cR v.c now id).1 ∧ e = .returned (.tuple #[.agg ⟨CC v'⟩, .int .i64 (cR v.c now id).2]) ∧ Out A w w' v' := by
  refine aD Tryz.func31 rfl Tryz.ntmps31 J J ?_
  refine ag ?_
  refine aa ?_
  (refine aT J J J J J J ?_; intro g3)
  (refine aF af J J J J J J ?_; intro g6)
  repeat' (first | refine ag ?_ | refine aa ?_ | refine ab ?_ | refine ae ?_ | ((refine' ak rfl ?_ J J ?_); rotate_left; first | exact ai af J J J J | exact ah af 1 J J J J J))
  refine bf (σ := Nat × List MapEntry × Nat) (fun s => PM s.2.1 v.c.qs) (fun s => .map (some s.1)) (fun s => [.obj s.1 (.map s.2.1.toArray s.2.2)]) rfl (ay J J J J ⟨J, trivial⟩ rfl (by kernel_rfl)) (fun w1 hm => iZ v w1 (hC.below hm.below) hzq) J J ?_
  rintro ⟨g, es, ck⟩ hpm
  dsimp only [List.cons_append, List.nil_append] at hpm ⊢
  obtain ⟨r, hr1, hr2⟩ := hpm.find id
  clear hpm
  cases hf : dh id v.c.qs 0 with
  | none =>
    rw [hf] at hr2
    have hen : cR v.c now id = (v.c, 10) := by unfold cR; rw [hf]
    repeat' (first | refine ag ?_ | refine aa ?_ | refine ab ?_ | refine aE ?_ | refine ae ?_ | ((refine' ak rfl ?_ J J ?_); rotate_left; first | exact eN 0 r (none) J J J J J J Tryz.underlying100 Tryz.underlying3 J J hr1 hr2 | exact ai af J J J J))
    refine aw J J ?_
    repeat' (first | refine ag ?_ | refine aa ?_ | refine ab ?_ | refine aA ?_ | refine ar ?_ | refine aQ ?_ | refine ae ?_ | ((refine' ak rfl ?_ J J ?_); rotate_left; first | exact ai af J J J J | exact ah af 2 J J J J J) | refine aj af 1 J J J J J J J J J J J J ?_)
    (refine aB af (fun _ => 1) J J ⟨J, trivial⟩ rfl fun w1 hm => ⟨v, ?_, ?_, Out.same hC hm.below⟩)
    · rw [hen]
    · rw [hen]
      rfl
  | some k =>
    rw [hf] at hr2
    obtain ⟨q0, hq0, hqid⟩ := ej hf
    obtain ⟨u, hu0, hu1⟩ : ∃ u, v.qv[k]? = some u ∧ u.q = q0 := by rw [hC.eq, List.getElem?_map] at hq0; simpa using hq0
    have hk : k < v.qv.length := (List.getElem?_eq_some_iff.1 hu0).1
    have hu := List.mem_of_getElem? hu0
    obtain ⟨bb, off, hx, _, _, hrows⟩ := hC.qs (by omega)
    have hrow : w.rangeAt bb (off + k * 15) (QC u) := hrows k u hu0
    have hat := eQ hC.eq hu0
    repeat' (first | refine ag ?_ | refine aa ?_ | refine ab ?_ | refine aE ?_ | refine ae ?_ | ((refine' ak rfl ?_ J J ?_); rotate_left; first | exact eN 0 r (some k) J J J J J J Tryz.underlying100 Tryz.underlying3 J J hr1 hr2 | exact ai af J J J J))
    refine am J J ?_
    repeat' (first | refine ag ?_ | refine aa ?_ | refine ab ?_ | refine ae ?_ | ((refine' ak rfl ?_ J J ?_); rotate_left; first | exact b7 af (m := 15) k rfl hx J J J J J J J (fun _ => rfl) (fun _ => hk) | exact bT af (v := .bool u.q.dn) J J J J J (fun _ => hrow 12 _ rfl) | exact ai af J J J J | exact ah af 2 J J J J J))
    cases hdn : u.q.dn with
    | true =>
      have hen : cR v.c now id = (v.c, 20) := by unfold cR; rw [hf]; simp only [hat, if_pos hdn]
      refine aw J J ?_
      repeat' (first | refine ag ?_ | refine aa ?_ | refine ab ?_ | refine aA ?_ | refine ar ?_ | refine aQ ?_ | refine ae ?_ | ((refine' ak rfl ?_ J J ?_); rotate_left; first | exact ai af J J J J | exact ah af 2 J J J J J) | refine aj af 1 J J J J J J J J J J J J ?_)
      (refine aB af (fun _ => 1) J J ⟨J, trivial⟩ rfl fun w1 hm => ⟨v, ?_, ?_, Out.same hC hm.below⟩)
      · rw [hen]
      · rw [hen]
        rfl
    | false =>
      have hen : cR v.c now id = (dE v.c k 1 (bI now), 0) := by unfold cR; rw [hf]; simp only [hat, if_neg (hdn ▸ Bool.false_ne_true)]
      refine am J J ?_
      repeat' (first | refine ag ?_ | refine aa ?_ | refine ab ?_ | refine au ?_ | refine ax ?_ | ((refine' ak rfl ?_ J J ?_); rotate_left; exact ah af 2 J J J J J))
      refine bf (σ := CV) (fun s => s.c = v.c ∧ s.qv.map (·.q) = v.qv.map (·.q)) (fun s => .agg ⟨CC s⟩) EC rfl (ay J J J J ⟨J, trivial⟩ rfl (by kernel_rfl)) (fun w1 hm => dR v w1 (hC.below hm.below) hzb (by omega) hz) J J ?_
      rintro ⟨c1, b1, bc1, x1, xc1, qv1⟩ ⟨hc1, hq1⟩
      dsimp only at hc1 hq1
      subst hc1
      have hln := eW hq1
      refine dN (fun w hM => hM.perm (qf [_, _] _ _)) ?_
      dsimp only [List.cons_append, List.nil_append]
      have hk1 : k < qv1.length := by rw [hln]; exact hk
      obtain ⟨u1, hu1'⟩ : ∃ u, qv1[k]? = some u := ⟨_, List.getElem?_eq_getElem hk1⟩
      have hqm : v.c.qs = qv1.map (·.q) := by rw [hC.eq, hq1]
      refine nC 0 rfl (by show 0 < qv1.length; omega) ?_
      rintro gx hx1
      subst hx1
      repeat' (first | refine ag ?_ | refine aa ?_ | refine ab ?_ | refine ae ?_ | (refine aF af J J J J J J ?_; intro g14) | ((refine' ak rfl ?_ J J ?_); rotate_left; exact ai af J J J J) | refine aG rfl (ay J J J J ⟨J, trivial⟩ rfl (by kernel_rfl)) (fun w hm => gl now w) J J ?_ | refine aj af 0 J J J J J J J J J J J J ?_)
      refine dN (fun w hM => hM.perm (p3 _ _ _ _)) ?_
      refine bX (σ := Value × CV) (fun s => s.2.c = dE v.c k 1 (bI now) ∧ s.2.x = some ⟨gx, 0, none⟩ ∧ s.2.xc = xc1 ∧ s.2.qv.map (·.q) = s.2.c.qs ∧ s.2.qv.flatMap EQ = qv1.flatMap EQ ∧ s.2.qv.length = qv1.length) (fun s => s.1) (fun s => EM g14 s.2 ++ _) rfl (ay J J J J ⟨J, J, J, J, trivial⟩ rfl (by kernel_rfl)) (fun w hM => oJ g14 gx xc1 b1 bc1 v.c qv1 k u1 hu1' 1 (bI now) w hqm hbo hzb hM) J J ?_
      rintro ⟨r, ⟨c2, b2, bc2, x2, xc2, qv2⟩⟩ ⟨h1, h2, h3, h4, h5, h6⟩
      dsimp only at h1 h2 h3 h4 h5 h6
      subst h2 h3
      rw [← h1] at hen
      repeat' (first | refine ag ?_ | refine aa ?_ | refine ab ?_ | refine aA ?_ | refine ae ?_ | ((refine' ak rfl ?_ J J ?_); rotate_left; first | exact ai af J J J J | exact ah af 2 J J J J J) | refine aj af 4 J J J J J J J J J J J J ?_)
      (refine aB af (fun _ => 4) J J ⟨J, trivial⟩ rfl fun w1 hm => ⟨⟨(cR v.c now id).1, b2, bc2, some ⟨gx, 0, none⟩, xc2, qv2⟩, rfl, ?_, ?_⟩)
      · rw [hen]; rfl
      · refine Out.made ?_ (by rw [hen]; exact h4.symm)
        rw [hen]
        have h9 := hm.mask [true, true, false, false, false, false] rfl
        unfold EC
        rw [h5]
        exact h9
theorem qW {code now : Int} {b : BV} (h : dK b = true) : dK (db code now b) = true := by
  have hr := ec h
  have hk : 0 ≤ bI now ∧ bI now ≤ 1099511627776 := by unfold bI cp; omega
  have hp : ∀ f : Int, (1000 * (2 : Int) ^ (min (f - 3) 6).toNat) ≤ 64000 ∧ 0 ≤ (1000 * (2 : Int) ^ (min (f - 3) 6).toNat) := fun f => by
    have h1 : (min (f - 3) 6).toNat ≤ 6 := by omega
    generalize (min (f - 3) 6).toNat = n at h1 ⊢
    have : n = 0 ∨ n = 1 ∨ n = 2 ∨ n = 3 ∨ n = 4 ∨ n = 5 ∨ n = 6 := by omega
    rcases this with rfl | rfl | rfl | rfl | rfl | rfl | rfl <;> decide
  have h2 := hp (cp (b.fl + 1) 1000000)
  unfold db
  dsimp only
  split
  · split
    · generalize (1000 * (2 : Int) ^ (min (cp (b.fl + 1) 1000000 - 3) 6).toNat) = z at h2 ⊢
      generalize bI now = y at hk ⊢
      unfold dK gR cp
      simp
      omega
    · unfold dK gR cp
      simp
      omega
  · split <;> (unfold dK gR cp; simp; omega)
theorem vL {c : CL} {i : Nat} {code now : Int} (h : ∀ b ∈ c.bs, dK b = true) : (∀ b ∈ (ct c i code now).bs, dK b = true) ∧ (ct c i code now).bs.length = c.bs.length := by
  unfold ct
  dsimp only
  split
  · exact ⟨h, rfl⟩
  · unfold bZ
    dsimp only
    split
    · exact ⟨nE (fun _ => qW) h, eg _ _ _⟩
    · exact ⟨h, rfl⟩
theorem vM {c : CL} {i : Nat} {code now : Int} (h : ∀ b ∈ c.bs, dK b = true) : (∀ b ∈ (dE c i code now).bs, dK b = true) ∧ (dE c i code now).bs.length = c.bs.length := vL h
theorem p5 (n c a b : Ent) (R : List Ent) : (n :: c :: a :: b :: R).Perm (a :: b :: c :: n :: R) := (p4 n a b c R).trans (List.Perm.cons a (List.Perm.cons b (List.Perm.swap c n R)))
theorem p6 (n a b c : Ent) (R : List Ent) : (n :: a :: b :: c :: R).Perm (a :: b :: c :: n :: R) := (p3 n a b (c :: R)).trans (List.Perm.cons a (List.Perm.cons b (List.Perm.swap c n R)))
structure SX where
  i : Nat
  c : CL
  qv : List QV
  b : Option Addr
  bc : Nat
  la : Option Addr
  lc : Nat
  ids : List Int
structure SJ (n i bl : Nat) (now : Int) (c0 : CL) (E : List Ent) (c : CL) (qv : List QV) (ids : List Int) : Prop where
  le : i ≤ n
  len : qv.length = n
  eq : c.qs = qv.map (·.q)
  EE : qv.flatMap EQ = E
  ok : ∀ b ∈ c.bs, dK b = true
  bl : c.bs.length = bl
  ll : ids.length ≤ i
  go : eb now n 0 c0 = ((eb now (n - i) i c).1, ids ++ (eb now (n - i) i c).2)
theorem SJ.no {n i bl : Nat} {now : Int} {c0 : CL} {E : List Ent} {c : CL} {qv : List QV} {ids : List Int} (h : SJ n i bl now c0 E c qv ids) {u : QV} (hu : qv[i]? = some u) (hi : i < n) (hn : ¬(u.q.dn = false ∧ dC u.q now = true)) : SJ n (i + 1) bl now c0 E c qv ids := by
  refine ⟨hi, h.len, h.eq, h.EE, h.ok, h.bl, Nat.le_succ_of_le h.ll, ?_⟩
  have h1 := h.go
  rw [show n - i = n - (i + 1) + 1 by omega, eb, eQ h.eq hu] at h1
  dsimp only at h1
  rw [if_neg hn] at h1
  exact h1
theorem SJ.yes {n i bl : Nat} {now : Int} {c0 : CL} {E : List Ent} {c c2 : CL} {qv qv2 : List QV} {ids : List Int} (h : SJ n i bl now c0 E c qv ids) {u : QV} (hu : qv[i]? = some u) (hi : i < n) (hn : u.q.dn = false ∧ dC u.q now = true) (h1 : c2 = dE c i 3 now) (h4 : qv2.map (·.q) = c2.qs) (h5 : qv2.flatMap EQ = qv.flatMap EQ) (h6 : qv2.length = qv.length) : SJ n (i + 1) bl now c0 E c2 qv2 (ids ++ [u.q.id]) := by
  subst h1
  have hb := vM (i := i) (code := 3) (now := now) h.ok
  refine ⟨hi, by rw [h6, h.len], h4.symm, by rw [h5, h.EE], hb.1, by rw [hb.2, h.bl], by simp; have := h.ll; omega, ?_⟩
  have h9 := h.go
  rw [show n - i = n - (i + 1) + 1 by omega, eb, eQ h.eq hu] at h9
  dsimp only at h9
  rw [if_pos hn] at h9
  rw [h9, List.append_assoc]; rfl
set_option maxRecDepth 100000 in
set_option maxHeartbeats 16000000 in
theorem tW {A : Nat → Prop} (v : CV) (now : Int) (w : World) (hC : COk A w v) (hzq : v.qv.length ≤ 703687441776) (hzb : v.c.bs.length ≤ 2513169434916) (hz : ∀ u ∈ v.qv, eP u.q) (hbo : ∀ b ∈ v.c.bs, dK b = true) : Calls Tryz.prog 32 #[.agg #[.slice v.b v.c.bs.length v.bc, .int .i64 v.c.ra, .int .i64 v.c.rb, .int .i64 v.c.rc, .int .i64 v.c.rk, .int .i64 v.c.tk, .int .i64 v.c.mo, .int .i64 v.c.gn, .slice v.x v.qv.length v.xc, .int .i64 v.c.nx], .int .i64 now] w fun e w' => ∃ s : CV × (Option Addr × Nat), s.1.c = (df v.c now).1 ∧ e = .returned (.tuple #[.agg ⟨CC s.1⟩, .slice s.2.1 (df v.c now).2.length s.2.2]) ∧ Out A w w' s.1 ∧ Rws (fun b => w.heap.size ≤ b) w' 1 iC s.2.1 (df v.c now).2 := by
  refine aD Tryz.func32 rfl Tryz.ntmps32 J J ?_
  refine ag ?_
  refine aa ?_
  (refine aT J J J J J J ?_; intro g2)
  (refine aF af J J J J J J ?_; intro g4)
  repeat' (first | refine ag ?_ | refine aa ?_ | refine ab ?_ | refine ae ?_ | ((refine' ak rfl ?_ J J ?_); rotate_left; first | exact ai af J J J J | exact ah af 1 J J J J J) | refine aG rfl (ay J J J J ⟨J, trivial⟩ rfl (by kernel_rfl)) (fun w hm => gl now w) J J ?_)
  refine bf (σ := CV) (fun s => s.c = v.c ∧ s.qv.map (·.q) = v.qv.map (·.q)) (fun s => .agg ⟨CC s⟩) EC rfl (ay J J J J ⟨J, trivial⟩ rfl (by kernel_rfl)) (fun w1 hm => dR v w1 (hC.below hm.below) hzb (by omega) hz) J J ?_
  rintro ⟨c1, b1, bc1, x1, xc1, qv1⟩ ⟨hc1, hq1⟩
  dsimp only at hc1 hq1
  subst hc1
  have hln := eW hq1
  refine dN (fun w hM => hM.perm (qf [_, _] _ _)) ?_
  dsimp only [List.cons_append, List.nil_append]
  repeat' (first | refine ag ?_ | refine aa ?_ | refine ab ?_ | refine aE ?_ | refine ae ?_ | (refine aF af J J J J J J ?_; intro g6) | ((refine' ak rfl ?_ J J ?_); rotate_left; first | exact ai af J J J J | exact ah af 0 J J J J J | exact aO af J J J J J J J) | refine aj af 0 J J J J J J J J J J J J ?_)
  refine iT 3 1 ?_
  have hqm : v.c.qs = qv1.map (·.q) := by rw [hC.eq, hq1]
  have hl9 : v.c.qs.length = qv1.length := by rw [hqm, List.length_map]
  refine jf (M' := .own x1 xc1 50 15 (qv1).length ((qv1).flatMap QC) :: .own b1 bc1 64 6 (v.c).bs.length ((v.c).bs.flatMap bC) :: .cl g6 32 (CC ⟨v.c, b1, bc1, x1, xc1, qv1⟩) :: .own none 0 3 1 (([] : List Int)).length ((([] : List Int)).flatMap iC) :: .cl g4 32 [.slice none 0 0, .int .i64 0, .int .i64 0, .int .i64 0, .int .i64 0, .int .i64 0, .int .i64 0, .int .i64 0, .slice none 0 0, .int .i64 0] :: .cl g2 32 [.slice v.b v.c.bs.length v.bc, .int .i64 v.c.ra, .int .i64 v.c.rb, .int .i64 v.c.rc, .int .i64 v.c.rk, .int .i64 v.c.tk, .int .i64 v.c.mo, .int .i64 v.c.gn, .slice v.x v.qv.length v.xc, .int .i64 v.c.nx] :: qv1.flatMap EQ) (fun w hM => hM.perm (p5 _ _ _ _ _)) ?_
  refine bF (σ := SX) (fun p => SJ qv1.length p.i v.c.bs.length (bI now) v.c (qv1.flatMap EQ) p.c p.qv p.ids) (fun p => [(17, [], .int .i64 ((p.i : Nat) : Int)), (16, [], .int .i64 ((qv1.length : Nat) : Int)), (15, [], .slice x1 qv1.length xc1), (7, [], .slice p.la p.ids.length p.lc), (6, [], .pointer (some ⟨g6, 0, none⟩)), (4, [], .pointer (some ⟨g4, 0, none⟩)), (1, [], .int .i64 (bI now))]) (fun p => .own x1 xc1 50 15 (p.qv).length ((p.qv).flatMap QC) :: .own p.b p.bc 64 6 (p.c).bs.length ((p.c).bs.flatMap bC) :: .cl g6 32 (CC ⟨p.c, p.b, p.bc, x1, xc1, p.qv⟩) :: .own p.la p.lc 3 1 (p.ids).length ((p.ids).flatMap iC) :: .cl g4 32 [.slice none 0 0, .int .i64 0, .int .i64 0, .int .i64 0, .int .i64 0, .int .i64 0, .int .i64 0, .int .i64 0, .slice none 0 0, .int .i64 0] :: .cl g2 32 [.slice v.b v.c.bs.length v.bc, .int .i64 v.c.ra, .int .i64 v.c.rb, .int .i64 v.c.rc, .int .i64 v.c.rk, .int .i64 v.c.tk, .int .i64 v.c.mo, .int .i64 v.c.gn, .slice v.x v.qv.length v.xc, .int .i64 v.c.nx] :: qv1.flatMap EQ) (fun p => qv1.length - p.i) ⟨0, v.c, qv1, b1, bc1, none, 0, []⟩ [] ⟨Nat.zero_le _, rfl, hqm, rfl, hbo, rfl, Nat.le_refl _, by simp⟩ ⟨J, J, J, J, J, J, J, trivial⟩ rfl ?_
  rintro ⟨i, c, qv, b, bc, la, lc, ids⟩ hI
  dsimp only at hI ⊢
  have hln2 := hI.len
  by_cases hi : i < qv1.length
  · obtain ⟨u, hu⟩ : ∃ u, qv[i]? = some u := ⟨_, List.getElem?_eq_getElem (by omega)⟩
    have hll := hI.ll
    refine jL 0 rfl (by omega) ?_
    rintro gx rfl
    repeat' (first | refine ag ?_ | refine aa ?_ | refine ab ?_ | refine ae ?_ | ((refine' ak rfl ?_ J J ?_); rotate_left; exact aq af J J J J J J))
    refine aw rfl (by simp; omega) ?_
    repeat' (first | refine ag ?_ | refine aa ?_ | refine ab ?_ | refine au ?_ | refine aE ?_ | refine ae ?_ | (refine aF af J J J J J J ?_; intro g9) | ((refine' ak rfl ?_ J J ?_); rotate_left; first | exact bA af (m := 15) i J J J J J J J J (fun _ => rfl) (fun _ => hi) | exact iu af 0 (cs := QC u) J J J J J J (fun _ j c hc => by rw [Nat.zero_add]; exact br bj hu hc) | exact ai af J J J J | exact bx J J J J J | exact ah af 0 J J J J J) | refine aG rfl (ay J J J J ⟨J, J, trivial⟩ rfl (by kernel_rfl)) (fun w hm => lA u (bI now) w) J J ?_ | refine aj af 0 J J J J J J J J J J J J ?_)
    by_cases hd : u.q.dn = false ∧ dC u.q (bI now) = true
    · refine aw rfl (by rw [hd.1, hd.2]; rfl) ?_
      repeat' (first | refine ag ?_ | refine aa ?_ | ((refine' ak rfl ?_ J J ?_); rotate_left; exact ai af J J J J))
      refine dN (fun w hM => hM.perm (p6 _ _ _ _ _)) ?_
      refine bX (σ := Value × CV) (fun s => s.2.c = dE c i 3 (bI now) ∧ s.2.x = some ⟨gx, 0, none⟩ ∧ s.2.xc = xc1 ∧ s.2.qv.map (·.q) = s.2.c.qs ∧ s.2.qv.flatMap EQ = qv.flatMap EQ ∧ s.2.qv.length = qv.length) (fun s => s.1) (fun s => EM g6 s.2 ++ _) rfl (ay J J J J ⟨J, J, J, J, trivial⟩ rfl (by kernel_rfl)) (fun w hM => oJ g6 gx xc1 b bc c qv i u hu 3 (bI now) w hI.eq hI.ok (by rw [hI.bl]; exact hzb) hM) J J ?_
      rintro ⟨r, ⟨c2, b2, bc2, x2, xc2, qv2⟩⟩ ⟨h1, h2, h3, h4, h5, h6⟩
      dsimp only at h1 h2 h3 h4 h5 h6
      subst h2 h3
      dsimp only [EM, List.cons_append, List.nil_append]
      repeat' (first | refine aa ?_ | refine ab ?_ | refine ax ?_ | refine ae ?_ | (refine bq af J J J ⟨J, trivial⟩ J J J J J J J J ?_; intro g) | (refine bK af 5 0 J J J J J J J J J (fun _ _ => rfl) qO J J (by unfold maxLen; omega) (by omega) J J ?_; intro sa sc) | ((refine' ak rfl ?_ J J ?_); rotate_left; first | exact a6 J J J J J (by omega) | exact ai af J J J J | exact ah af 3 J J J J J))
      refine aR ⟨i + 1, c2, qv2, b2, bc2, sa, sc, ids ++ [u.q.id]⟩ [false, true, true, true, false, true, true, true] (hI.yes hu hi hd h1 h4 h5 h6) (show qv1.length - (i + 1) < qv1.length - i by omega) ⟨rfl, rfl, rfl, by simp [lk], rfl, rfl, rfl, trivial⟩ (by simp [dV, iC]; rfl)
    · refine am rfl (by cases h8 : u.q.dn <;> cases h9 : dC u.q (bI now) <;> first | rfl | exact absurd ⟨h8, h9⟩ hd) ?_
      repeat' (first | refine aa ?_ | refine ab ?_ | refine au ?_ | refine ax ?_ | refine ae ?_ | ((refine' ak rfl ?_ J J ?_); rotate_left; first | exact a6 J J J J J (by omega) | exact ai af J J J J))
      refine aR ⟨i + 1, c, qv, b, bc, la, lc, ids⟩ [false] (hI.no hu hi hd) (show qv1.length - (i + 1) < qv1.length - i by omega) ⟨J, J, J, J, J, J, J, trivial⟩ rfl
  · have hin : i = qv1.length := by have := hI.le; omega
    subst hin
    have hgo := hI.go
    rw [Nat.sub_self, ← hl9] at hgo
    have hex : df v.c now = (c, ids) := by unfold df; rw [hgo]; simp [eb]
    repeat' (first | refine ag ?_ | refine aa ?_ | refine ab ?_ | refine ae ?_ | ((refine' ak rfl ?_ J J ?_); rotate_left; exact aq af J J J J J J))
    refine am rfl (by simp) ?_
    repeat' (first | refine ag ?_ | refine aa ?_ | refine ab ?_ | refine aA ?_ | refine a8 ?_ | refine aH ?_ | refine aN ?_ | refine ae ?_ | ((refine' ak rfl ?_ J J ?_); rotate_left; first | exact ai af J J J J | exact ah af 2 J J J J J) | refine aj af 4 J J J J J J J J J J J J ?_)
    (refine aB af (fun _ => 4) J J ⟨J, trivial⟩ rfl fun w1 hm => ⟨(⟨(df v.c now).1, b, bc, x1, xc1, qv⟩, (la, lc)), rfl, ?_, Out.made ?_ (by rw [hex]; exact hI.eq), ?_⟩)
    · rw [hex]; rfl
    · rw [hex]
      have h9 := hm.mask [true, true, false, false, false, false] rfl
      unfold EC
      rw [hI.EE]
      exact h9
    · rw [hex]
      exact Rws.own nw (hm.2.get (i := 3) rfl)
end Go.Proofs.YtmdkfbmpenohiaaGreatDoor.Y
