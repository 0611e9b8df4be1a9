/- Texts of this claim merged into one: VCn14, VCn15, VCn16. -/
import Derived.Test.YthiocbcokfondaaGreatDoorVBunC12
namespace Go.Proofs.YthiocbcokfondaaGreatDoor.Y
open Go.RowKit
def tX (c : NL) : Bool := (c.sd != 1 && c.sd != 2) || decide (c.sz < 1) || decide (c.sz > 1048576)
def tY (c : NL) : Bool := !di c.sw || !di c.rw || c.sw.size != c.sz || c.rw.size != c.sz || c.sw.held != 0
def tI (c : NL) : Bool := decide (c.la < 0) || decide (c.la ≥ 2147483648) || decide (c.aw < 0) || decide (c.aw > 2147483648)
def tZ (c : NL) : Bool := (c.sd == 1 && c.nx != c.la + 1) || (c.sd == 2 && (c.nx != 1 || decide (c.aw > c.la + 1)))
def rgGo (c : NL) : Option Int → List KR → Bool
  | _, [] => true
  | p, k :: r => if !gS c k || (match p with | none => false | some x => decide (x ≥ k.st.id)) then false else rgGo c (some k.st.id) r
theorem oe (c : NL) (p : Option Int) : rgGo c p [] = true := by rw [rgGo.eq_def]
theorem j3 {c : NL} {p : Option Int} {k : KR} {r : List KR} (h : (!gS c k || (match p with | none => false | some x => decide (x ≥ k.st.id))) = true) : rgGo c p (k :: r) = false := by rw [rgGo.eq_def]; dsimp only; rw [h]; rfl
theorem iY {c : NL} {p : Option Int} {k : KR} {r : List KR} (h : (!gS c k || (match p with | none => false | some x => decide (x ≥ k.st.id))) = false) : rgGo c p (k :: r) = rgGo c (some k.st.id) r := by rw [rgGo.eq_def]; dsimp only; rw [h]; rfl
def hJ (l : List Int) : Bool := l.all fun n => !(decide (n < 0) || decide (n ≥ 4294967296))
theorem pt (n : Int) (l : List Int) : hJ (n :: l) = (!(decide (n < 0) || decide (n ≥ 4294967296)) && hJ l) := List.all_cons
def oh (c : NL) : Bool := c.cl && (decide ((c.ou.length : Int) > 0) || decide (((dw c.ks : Nat) : Int) > 0))
def tJ (c : NL) : Bool := decide (((dw c.ks : Nat) : Int) ≤ 64) && decide (cL c.ks ≤ c.rw.held) && decide ((c.pg.length : Int) ≤ 16)
def iZ (c : NL) : Bool := if tX c then false else if tY c then false else if tI c then false else if tZ c then false else if rgGo c none c.ks then (if hJ c.pg then (if iA c.ou then (if oh c then false else tJ c) else false) else false) else false
attribute [local irreducible] Calls
theorem vR {A : Nat → Prop} (v : NV) (u : KV) (b : Bool) (h : gS v.c u.k = b) (w : World) (hK : KOk A w u) (hub : ce u.k.ib ≤ 4611686018427387904) (hs : wt u.k) (htx : u.k.st.text.size ≤ 4611686018427387900) (hfd : ∀ f ∈ u.k.ob, f.data.size < 4294967281) (hhz : eo u.k.hd) : Calls Tryz.prog 33 #[.agg #[.int .i64 v.c.sd, .int .i64 v.c.nx, .int .i64 v.c.la, .int .i64 v.c.aw, .int .i64 v.c.sz, .int .i64 v.c.sw.size, .int .i64 v.c.sw.left, .int .i64 v.c.sw.held, .int .i64 v.c.rw.size, .int .i64 v.c.rw.left, .int .i64 v.c.rw.held, .slice v.x v.kv.length v.xc, .slice v.o v.c.ou.length v.oc, .slice v.p v.c.pg.length v.pc, .bool v.c.cl], .agg #[.int .i64 u.k.st.id, .int .i64 u.k.st.side, .int .i64 u.k.st.shape, .int .i64 u.k.st.sent, .int .i64 u.k.st.got, .bool u.k.st.se, .bool u.k.st.ge, .bool u.k.st.done, .int .i64 u.k.st.code, .string u.k.st.text, .int .i64 u.k.st.snd.size, .int .i64 u.k.st.snd.left, .int .i64 u.k.st.snd.held, .int .i64 u.k.st.rcv.size, .int .i64 u.k.st.rcv.left, .int .i64 u.k.st.rcv.held, .string u.k.sv, .string u.k.mt, .int .i64 u.k.lt, .slice u.m u.k.ms.length u.mc, .slice u.i u.k.ib.length u.ic, .slice u.o u.k.ob.length u.oc]] w fun e w' => e = .returned (.bool b) ∧ Below w.heap.size w w' := by
  subst h
  exact tH v u w hK hub hs htx hfd hhz
theorem wX (f : cO) (e : Int) (h : bC f = e) (w : World) (hs : f.data.size < 4294967281) : Calls Tryz.prog 34 #[.agg #[.int .i64 f.kind, .int .i64 f.strm, .int .i64 f.num, .string f.data]] w fun r w' => r = .returned (.int .i64 e) ∧ Below w.heap.size w w' := by
  subst h
  exact jQ f w hs
theorem wY {A : Nat → Prop} (v : NV) (n : Int) (h : cL v.c.ks = n) (w : World) (hN : NOk A w v) (hzk : v.kv.length ≤ 606626243774) (htb : cL v.c.ks ≤ 4611686018427387904) (hzi : ∀ u ∈ v.kv, u.k.ib.length ≤ 8796093022208) : Calls Tryz.prog 36 #[.agg #[.int .i64 v.c.sd, .int .i64 v.c.nx, .int .i64 v.c.la, .int .i64 v.c.aw, .int .i64 v.c.sz, .int .i64 v.c.sw.size, .int .i64 v.c.sw.left, .int .i64 v.c.sw.held, .int .i64 v.c.rw.size, .int .i64 v.c.rw.left, .int .i64 v.c.rw.held, .slice v.x v.kv.length v.xc, .slice v.o v.c.ou.length v.oc, .slice v.p v.c.pg.length v.pc, .bool v.c.cl]] w fun e w' => e = .returned (.int .i64 n) ∧ Below w.heap.size w w' := by
  subst h
  exact qT v w hN hzk htb hzi
theorem tK {A : Nat → Prop} (v : NV) (n : Nat) (h : dw v.c.ks = n) (w : World) (hN : NOk A w v) (hzk : v.kv.length ≤ 606626243774) : Calls Tryz.prog 35 #[.agg #[.int .i64 v.c.sd, .int .i64 v.c.nx, .int .i64 v.c.la, .int .i64 v.c.aw, .int .i64 v.c.sz, .int .i64 v.c.sw.size, .int .i64 v.c.sw.left, .int .i64 v.c.sw.held, .int .i64 v.c.rw.size, .int .i64 v.c.rw.left, .int .i64 v.c.rw.held, .slice v.x v.kv.length v.xc, .slice v.o v.c.ou.length v.oc, .slice v.p v.c.pg.length v.pc, .bool v.c.cl]] w fun e w' => e = .returned (.int .i64 ((n : Nat) : Int)) ∧ Below w.heap.size w w' := by
  subst h
  exact qU v w hN hzk
set_option maxRecDepth 100000 in
set_option maxHeartbeats 32000000 in
theorem ro {A : Nat → Prop} (v : NV) (w : World) (hN : NOk A w v) (hz : pS v) (hgd : vf v) (hzv : xj v) : Calls Tryz.prog 9 #[.agg #[.int .i64 v.c.sd, .int .i64 v.c.nx, .int .i64 v.c.la, .int .i64 v.c.aw, .int .i64 v.c.sz, .int .i64 v.c.sw.size, .int .i64 v.c.sw.left, .int .i64 v.c.sw.held, .int .i64 v.c.rw.size, .int .i64 v.c.rw.left, .int .i64 v.c.rw.held, .slice v.x v.kv.length v.xc, .slice v.o v.c.ou.length v.oc, .slice v.p v.c.pg.length v.pc, .bool v.c.cl]] w fun e w' => e = .returned (.bool (iZ v.c)) ∧ Below w.heap.size w w' := by
  refine aI Tryz.func9 rfl Tryz.ntmps9 J J ?_
  have hzk := hz.ks
  have hzo := hz.ou
  have hzp := hz.pg
  have hl := hN.lenk
  repeat' (first | refine ah ?_ | refine aa ?_ | refine ab ?_ | refine ae ?_ | (refine aW J J J J J J ?_; intro g1) | ((refine' am rfl ?_ J J ?_); rotate_left; first | exact ai af J J J J | exact ap af J J J J J J | exact bH J J J J J | exact bJ J J J J J | exact ag af 0 J J J J J))
  cases hrw1 : tX v.c with
  | true =>
    refine aF rfl (by have h9 := hrw1; unfold tX at h9; exact h9) ?_
    repeat' (first | refine ah ?_ | refine aa ?_ | refine ab ?_ | refine az ?_ | refine ak ?_ | refine ae ?_ | ((refine' am rfl ?_ J J ?_); rotate_left; exact ai af J J J J))
    refine ay af (fun _ => 0) J J trivial rfl fun w hm => ⟨?_, hm.below⟩
    unfold iZ; rw [hrw1]; rfl
  | false =>
  refine au rfl (by have h9 := hrw1; unfold tX at h9; exact h9) ?_
  repeat' (first | refine ah ?_ | refine aa ?_ | refine ab ?_ | refine ar ?_ | refine ae ?_ | ((refine' am rfl ?_ J J ?_); rotate_left; first | exact ai af J J J J | exact ap af J J J J J J | exact bH J J J J J | exact ag af 0 J J J J J) | refine aH rfl (av J J J J ⟨J, trivial⟩ rfl (by kernel_rfl)) (fun w hm => gu ⟨_, _, _⟩ w) J J ?_)
  cases hrw3 : tY v.c with
  | true =>
    refine aF rfl (by have h9 := hrw3; unfold tY at h9; exact h9) ?_
    repeat' (first | refine ah ?_ | refine aa ?_ | refine ab ?_ | refine az ?_ | refine ak ?_ | refine ae ?_ | ((refine' am rfl ?_ J J ?_); rotate_left; exact ai af J J J J))
    refine ay af (fun _ => 0) J J trivial rfl fun w hm => ⟨?_, hm.below⟩
    unfold iZ; rw [hrw1]; rw [hrw3]; rfl
  | false =>
  refine au rfl (by have h9 := hrw3; unfold tY at h9; exact h9) ?_
  repeat' (first | refine ah ?_ | refine aa ?_ | refine ab ?_ | refine ar ?_ | refine ae ?_ | ((refine' am rfl ?_ J J ?_); rotate_left; first | exact ai af J J J J | exact ap af J J J J J J | exact bH J J J J J | exact ag af 0 J J J J J))
  cases hrw5 : tI v.c with
  | true =>
    refine aF rfl (by have h9 := hrw5; unfold tI at h9; exact h9) ?_
    repeat' (first | refine ah ?_ | refine aa ?_ | refine ab ?_ | refine az ?_ | refine ak ?_ | refine ae ?_ | ((refine' am rfl ?_ J J ?_); rotate_left; exact ai af J J J J))
    refine ay af (fun _ => 0) J J trivial rfl fun w hm => ⟨?_, hm.below⟩
    unfold iZ; rw [hrw1, hrw3]; rw [hrw5]; rfl
  | false =>
  refine au rfl (by have h9 := hrw5; unfold tI at h9; exact h9) ?_
  have hla : 0 ≤ v.c.la ∧ v.c.la < 2147483648 := by
    have h9 := hrw5
    unfold tI at h9
    simp only [Bool.or_eq_false_iff, decide_eq_false_iff_not] at h9
    omega
  repeat' (first | refine ah ?_ | refine aa ?_ | refine ab ?_ | refine ar ?_ | refine ae ?_ | ((refine' am rfl ?_ J J ?_); rotate_left; first | exact bz J J J J J (by omega) | exact ai af J J J J | exact ap af J J J J J J | exact bH J J J J J | exact bJ J J J J J | exact ag af 0 J J J J J))
  cases hrw7 : tZ v.c with
  | true =>
    refine aF rfl (by have h9 := hrw7; unfold tZ at h9; exact h9) ?_
    repeat' (first | refine ah ?_ | refine aa ?_ | refine ab ?_ | refine az ?_ | refine ak ?_ | refine ae ?_ | ((refine' am rfl ?_ J J ?_); rotate_left; exact ai af J J J J))
    refine ay af (fun _ => 0) J J trivial rfl fun w hm => ⟨?_, hm.below⟩
    unfold iZ; rw [hrw1, hrw3, hrw5]; rw [hrw7]; rfl
  | false =>
  refine au rfl (by have h9 := hrw7; unfold tZ at h9; exact h9) ?_
  have hv1 : iZ v.c = if rgGo v.c none v.c.ks then (if hJ v.c.pg then (if iA v.c.ou then (if oh v.c then false else tJ v.c) else false) else false) else false := by unfold iZ; rw [hrw1, hrw3, hrw5, hrw7]; rfl
  repeat' (first | refine ah ?_ | refine aa ?_ | refine ab ?_ | refine ar ?_ | refine aK ?_ | refine ae ?_ | ((refine' am rfl ?_ J J ?_); rotate_left; exact ai af J J J J))
  refine bu (σ := Nat) (fun p => p ≤ v.kv.length ∧ rgGo v.c none v.c.ks = rgGo v.c (match p with | 0 => none | i + 1 => (v.kv[i]?).map (fun x => x.k.st.id)) (v.c.ks.drop p)) (fun p => [(3, [], .int .i64 ((p : Nat) : Int)), (1, [], .pointer (some ⟨g1, 0, none⟩))]) (fun _ => [.cl g1 28 [.int .i64 v.c.sd, .int .i64 v.c.nx, .int .i64 v.c.la, .int .i64 v.c.aw, .int .i64 v.c.sz, .int .i64 v.c.sw.size, .int .i64 v.c.sw.left, .int .i64 v.c.sw.held, .int .i64 v.c.rw.size, .int .i64 v.c.rw.left, .int .i64 v.c.rw.held, .slice v.x v.kv.length v.xc, .slice v.o v.c.ou.length v.oc, .slice v.p v.c.pg.length v.pc, .bool v.c.cl]]) (fun p => v.kv.length - p) 0 [true] ⟨Nat.zero_le _, rfl⟩ ⟨J, J, trivial⟩ rfl ?_
  rintro j ⟨hj0, hr⟩
  by_cases hj : j < v.kv.length
  · obtain ⟨u, hu⟩ : ∃ u, v.kv[j]? = some u := ⟨_, List.getElem?_eq_getElem hj⟩
    have hum := List.mem_of_getElem? hu
    obtain ⟨bb, off, hx, _, _, hrows⟩ := hN.ks (by omega)
    have hrow : w.rangeAt bb (off + j * 22) (KC u) := hrows j u hu
    have hqj : v.c.ks[j]? = some u.k := by rw [hN.eq, List.getElem?_map, hu]; rfl
    obtain ⟨vb, hvb⟩ : ∃ b, gS v.c u.k = b := ⟨_, rfl⟩
    rw [cz hqj] at hr
    repeat' (first | refine ah ?_ | refine aa ?_ | refine ab ?_ | refine ae ?_ | ((refine' am rfl ?_ J J ?_); rotate_left; first | exact ai af J J J J | exact ap af J J J J J J | exact ag af 0 J J J J J | exact aV af J J J J J J J))
    refine aF rfl (by simp; omega) ?_
    cases j with
    | zero =>
      dsimp only at hr
      repeat' (first | refine ah ?_ | refine ab ?_ | refine ar ?_ | refine aK ?_ | refine aX aQ rfl (by kernel_rfl) ?_ | refine ae ?_ | refine bG ?_ | ((refine' dD rfl ?_ J J J ?_); rotate_left; first | exact bM af (m := 22) 0 rfl hx J J J J J J J (fun _ => rfl) (fun _ => hj) | exact bg af (cs := KC u) J J J J J (fun _ => hrow) | exact b8 af (v := .int .i64 u.k.st.id) J J J J J (fun _ => hrow 0 _ rfl) | exact ai af J J J J | exact ap af J J J J J J | exact bH J J J J J | exact bJ J J J J J | exact ag af 0 J J J J J) | refine bk rfl (av J J J J ⟨J, J, trivial⟩ rfl (by kernel_rfl)) rfl (fun w hm => vR v u vb hvb w ((hN.ok u hum).below hm.below) (hzv.ub u hum) (hz.ok u hum) (hgd.tx u hum) (hgd.fr u hum) (hzv.hd u hum)) J J ?_ | ((refine' dD rfl ?_ J J J ?_); rotate_left; exact pQ (.pointer (some ⟨g1, 1, none⟩)) rfl))
      cases hb : (!gS v.c u.k || (match (none : Option Int) with | none => false | some x => decide (x ≥ u.k.st.id))) with
      | true =>
        rw [j3 hb] at hr
        refine aF rfl (by rw [← hb, hvb]; first | rfl | (rw [hpos]; rfl)) ?_
        repeat' (first | refine ah ?_ | refine aa ?_ | refine ab ?_ | refine az ?_ | refine ak ?_ | refine a7 ?_ | refine ae ?_ | ((refine' am rfl ?_ J J ?_); rotate_left; exact ai af J J J J))
        refine ay af (fun _ => 0) J J trivial rfl fun w hm => ⟨?_, hm.below⟩
        rw [hv1, hr]; rfl
      | false =>
        rw [iY hb] at hr
        refine au rfl (by rw [← hb, hvb]; first | rfl | (rw [hpos]; rfl)) ?_
        repeat' (first | refine aa ?_ | refine ab ?_ | refine ar ?_ | refine aE ?_ | refine ae ?_ | ((refine' am rfl ?_ J J ?_); rotate_left; first | exact bz J J J J J (by omega) | exact ai af J J J J))
        refine a8 1 [true] ⟨hj, by dsimp only; rw [hr, hu]; rfl⟩ (show v.kv.length - 1 < v.kv.length - 0 by omega) ⟨J, J, trivial⟩ rfl
    | succ i =>
      have hi1 : i < v.kv.length := by omega
      have hsub := pR i (by omega)
      have hpos : decide (((i + 1 : Nat) : Int) > 0) = true := decide_eq_true (by omega)
      obtain ⟨u0, hu0⟩ : ∃ u, v.kv[i]? = some u := ⟨_, List.getElem?_eq_getElem hi1⟩
      have hrow0 : w.rangeAt bb (off + i * 22) (KC u0) := hrows i u0 hu0
      dsimp only at hr
      rw [hu0] at hr
      dsimp only [Option.map] at hr
      repeat' (first | refine ah ?_ | refine ab ?_ | refine ar ?_ | refine aK ?_ | refine aX aQ rfl (by kernel_rfl) ?_ | refine ae ?_ | refine bG ?_ | ((refine' dD rfl ?_ J J J ?_); rotate_left; first | exact bM af (m := 22) i rfl hx J J J J J J J (fun _ => hsub) (fun _ => hi1) | exact bM af (m := 22) (i + 1) rfl hx J J J J J J J (fun _ => rfl) (fun _ => hj) | exact bg af (cs := KC u) J J J J J (fun _ => hrow) | exact b8 af (v := .int .i64 u0.k.st.id) J J J J J (fun _ => hrow0 0 _ rfl) | exact b8 af (v := .int .i64 u.k.st.id) J J J J J (fun _ => hrow 0 _ rfl) | exact ai af J J J J | exact ap af J J J J J J | exact bH J J J J J | exact bJ J J J J J | exact ag af 0 J J J J J) | refine bk rfl (av J J J J ⟨J, J, trivial⟩ rfl (by kernel_rfl)) rfl (fun w hm => vR v u vb hvb w ((hN.ok u hum).below hm.below) (hzv.ub u hum) (hz.ok u hum) (hgd.tx u hum) (hgd.fr u hum) (hzv.hd u hum)) J J ?_)
      cases hb : (!gS v.c u.k || (match (some u0.k.st.id : Option Int) with | none => false | some x => decide (x ≥ u.k.st.id))) with
      | true =>
        rw [j3 hb] at hr
        refine aF rfl (by rw [← hb, hvb]; first | rfl | (rw [hpos]; rfl)) ?_
        repeat' (first | refine ah ?_ | refine aa ?_ | refine ab ?_ | refine az ?_ | refine ak ?_ | refine a7 ?_ | refine ae ?_ | ((refine' am rfl ?_ J J ?_); rotate_left; exact ai af J J J J))
        refine ay af (fun _ => 0) J J trivial rfl fun w hm => ⟨?_, hm.below⟩
        rw [hv1, hr]; rfl
      | false =>
        rw [iY hb] at hr
        refine au rfl (by rw [← hb, hvb]; first | rfl | (rw [hpos]; rfl)) ?_
        repeat' (first | refine aa ?_ | refine ab ?_ | refine ar ?_ | refine aE ?_ | refine ae ?_ | ((refine' am rfl ?_ J J ?_); rotate_left; first | exact bz J J J J J (by omega) | exact ai af J J J J))
        refine a8 (i + 1 + 1) [true] ⟨hj, by dsimp only; rw [hr, hu]; rfl⟩ (show v.kv.length - (i + 1 + 1) < v.kv.length - (i + 1) by omega) ⟨J, J, trivial⟩ rfl
  rw [List.drop_eq_nil_of_le (by omega), oe] at hr
  rw [hr, if_pos rfl] at hv1
  repeat' (first | refine ah ?_ | refine aa ?_ | refine ab ?_ | refine ae ?_ | ((refine' am rfl ?_ J J ?_); rotate_left; first | exact ai af J J J J | exact ap af J J J J J J | exact ag af 0 J J J J J | exact aV af J J J J J J J))
  refine au rfl (by simp; omega) ?_
  repeat' (first | refine ah ?_ | refine aa ?_ | refine ab ?_ | refine aK ?_ | refine bj ?_ | refine aO ?_ | refine aU ?_ | refine ae ?_ | ((refine' am rfl ?_ J J ?_); rotate_left; exact ai af J J J J))
  refine bu (σ := Nat) (fun p => p ≤ v.c.pg.length ∧ hJ v.c.pg = hJ (v.c.pg.drop p)) (fun p => [(4, [], .int .i64 ((p : Nat) : Int)), (1, [], .pointer (some ⟨g1, 0, none⟩))]) (fun _ => [.cl g1 28 [.int .i64 v.c.sd, .int .i64 v.c.nx, .int .i64 v.c.la, .int .i64 v.c.aw, .int .i64 v.c.sz, .int .i64 v.c.sw.size, .int .i64 v.c.sw.left, .int .i64 v.c.sw.held, .int .i64 v.c.rw.size, .int .i64 v.c.rw.left, .int .i64 v.c.rw.held, .slice v.x v.kv.length v.xc, .slice v.o v.c.ou.length v.oc, .slice v.p v.c.pg.length v.pc, .bool v.c.cl]]) (fun p => v.c.pg.length - p) 0 [true] ⟨Nat.zero_le _, rfl⟩ ⟨J, J, trivial⟩ rfl ?_
  clear hr hj0 hj
  rintro j ⟨hj0, hp⟩
  by_cases hj : j < v.c.pg.length
  · obtain ⟨n, hs⟩ : ∃ n, v.c.pg[j]? = some n := ⟨_, List.getElem?_eq_getElem hj⟩
    obtain ⟨bb, off, hx, _, _, hrows⟩ := hN.pg (by omega)
    have hrow : w.rangeAt bb (off + j * 1) (iC n) := hrows j n hs
    rw [cz hs, pt] at hp
    repeat' (first | refine ah ?_ | refine aa ?_ | refine ab ?_ | refine ae ?_ | ((refine' am rfl ?_ J J ?_); rotate_left; first | exact ai af J J J J | exact ap af J J J J J J | exact ag af 0 J J J J J | exact aV af J J J J J J J))
    refine aF rfl (by simp; omega) ?_
    repeat' (first | refine ah ?_ | refine aa ?_ | refine ab ?_ | refine ar ?_ | refine aK ?_ | refine ae ?_ | ((refine' am rfl ?_ J J ?_); rotate_left; first | exact bM af (m := 1) j rfl hx J J J J J J J (fun _ => rfl) (fun _ => hj) | exact b8 af (v := .int .i64 n) J J J J J (fun _ => hrow 0 _ rfl) | exact ai af J J J J | exact ap af J J J J J J | exact bH J J J J J | exact ag af 0 J J J J J))
    cases hb : (decide (n < 0) || decide (n ≥ 4294967296)) with
    | true =>
      rw [hb] at hp
      refine aF J J ?_
      repeat' (first | refine ah ?_ | refine aa ?_ | refine ab ?_ | refine az ?_ | refine ak ?_ | refine a7 ?_ | refine ae ?_ | ((refine' am rfl ?_ J J ?_); rotate_left; exact ai af J J J J))
      refine ay af (fun _ => 0) J J trivial rfl fun w hm => ⟨?_, hm.below⟩
      rw [hv1, show hJ v.c.pg = false from hp]
      rfl
    | false =>
      rw [hb, Bool.not_false, Bool.true_and] at hp
      refine au J J ?_
      repeat' (first | refine aa ?_ | refine ab ?_ | refine ar ?_ | refine aE ?_ | refine ae ?_ | ((refine' am rfl ?_ J J ?_); rotate_left; first | exact bz J J J J J (by omega) | exact ai af J J J J))
      refine a8 (j + 1) [true] ⟨hj, hp⟩ (show v.c.pg.length - (j + 1) < v.c.pg.length - j by omega) ⟨J, J, trivial⟩ rfl
  rw [List.drop_eq_nil_of_le (by omega)] at hp
  rw [show hJ v.c.pg = true from hp, if_pos rfl] at hv1
  repeat' (first | refine ah ?_ | refine aa ?_ | refine ab ?_ | refine ae ?_ | ((refine' am rfl ?_ J J ?_); rotate_left; first | exact ai af J J J J | exact ap af J J J J J J | exact ag af 0 J J J J J | exact aV af J J J J J J J))
  refine au rfl (by simp; omega) ?_
  repeat' (first | refine ah ?_ | refine aa ?_ | refine ab ?_ | refine aK ?_ | refine bj ?_ | refine aO ?_ | refine aU ?_ | refine ae ?_ | ((refine' am rfl ?_ J J ?_); rotate_left; exact ai af J J J J))
  refine bu (σ := Nat) (fun p => p ≤ v.c.ou.length ∧ iA v.c.ou = iA (v.c.ou.drop p)) (fun p => [(5, [], .int .i64 ((p : Nat) : Int)), (1, [], .pointer (some ⟨g1, 0, none⟩))]) (fun _ => [.cl g1 28 [.int .i64 v.c.sd, .int .i64 v.c.nx, .int .i64 v.c.la, .int .i64 v.c.aw, .int .i64 v.c.sz, .int .i64 v.c.sw.size, .int .i64 v.c.sw.left, .int .i64 v.c.sw.held, .int .i64 v.c.rw.size, .int .i64 v.c.rw.left, .int .i64 v.c.rw.held, .slice v.x v.kv.length v.xc, .slice v.o v.c.ou.length v.oc, .slice v.p v.c.pg.length v.pc, .bool v.c.cl]]) (fun p => v.c.ou.length - p) 0 [true] ⟨Nat.zero_le _, rfl⟩ ⟨J, J, trivial⟩ rfl ?_
  clear hp hj0 hj
  rintro j ⟨hj0, hp⟩
  by_cases hj : j < v.c.ou.length
  · obtain ⟨f, hs⟩ : ∃ f, v.c.ou[j]? = some f := ⟨_, List.getElem?_eq_getElem hj⟩
    obtain ⟨bb, off, hx, _, _, hrows⟩ := hN.ou (by omega)
    have hrow : w.rangeAt bb (off + j * 4) (fC f) := hrows j f hs
    have hfd := hzv.of f (List.mem_of_getElem? hs)
    obtain ⟨ef, hef⟩ : ∃ x, bC f = x := ⟨_, rfl⟩
    rw [cz hs, mi, hef] at hp
    repeat' (first | refine ah ?_ | refine aa ?_ | refine ab ?_ | refine ae ?_ | ((refine' am rfl ?_ J J ?_); rotate_left; first | exact ai af J J J J | exact ap af J J J J J J | exact ag af 0 J J J J J | exact aV af J J J J J J J))
    refine aF rfl (by simp; omega) ?_
    repeat' (first | refine ah ?_ | refine aa ?_ | refine ab ?_ | refine ar ?_ | refine aK ?_ | refine ae ?_ | ((refine' am rfl ?_ J J ?_); rotate_left; first | exact bM af (m := 4) j rfl hx J J J J J J J (fun _ => rfl) (fun _ => hj) | exact bg af (cs := fC f) J J J J J (fun _ => hrow) | exact ai af J J J J | exact ap af J J J J J J | exact ag af 0 J J J J J) | refine aH rfl (av J J J J ⟨J, trivial⟩ rfl (by kernel_rfl)) (fun w hm => wX f ef hef w hfd) J J ?_)
    by_cases he : ef = 0
    · rw [decide_eq_true he, Bool.true_and] at hp
      refine au rfl (by simpa using he) ?_
      repeat' (first | refine aa ?_ | refine ab ?_ | refine ar ?_ | refine aE ?_ | refine ae ?_ | ((refine' am rfl ?_ J J ?_); rotate_left; first | exact bz J J J J J (by omega) | exact ai af J J J J))
      refine a8 (j + 1) [true] ⟨hj, hp⟩ (show v.c.ou.length - (j + 1) < v.c.ou.length - j by omega) ⟨J, J, trivial⟩ rfl
    · rw [decide_eq_false he, Bool.false_and] at hp
      refine aF rfl (by simpa using he) ?_
      repeat' (first | refine ah ?_ | refine aa ?_ | refine ab ?_ | refine az ?_ | refine ak ?_ | refine a7 ?_ | refine ae ?_ | ((refine' am rfl ?_ J J ?_); rotate_left; exact ai af J J J J))
      refine ay af (fun _ => 0) J J trivial rfl fun w hm => ⟨?_, hm.below⟩
      rw [hv1, show iA v.c.ou = false from hp]
      rfl
  rw [List.drop_eq_nil_of_le (by omega)] at hp
  rw [show iA v.c.ou = true from hp, if_pos rfl] at hv1
  repeat' (first | refine ah ?_ | refine aa ?_ | refine ab ?_ | refine ae ?_ | ((refine' am rfl ?_ J J ?_); rotate_left; first | exact ai af J J J J | exact ap af J J J J J J | exact ag af 0 J J J J J | exact aV af J J J J J J J))
  refine au rfl (by simp; omega) ?_
  obtain ⟨t, htt⟩ : ∃ n, cL v.c.ks = n := ⟨_, rfl⟩
  obtain ⟨n, hcn⟩ : ∃ n, dw v.c.ks = n := ⟨_, rfl⟩
  repeat' (first | refine ah ?_ | refine aa ?_ | refine ab ?_ | refine bj ?_ | refine aO ?_ | refine aU ?_ | refine ae ?_ | ((refine' am rfl ?_ J J ?_); rotate_left; first | exact ai af J J J J | exact ap af J J J J J J | exact bH J J J J J | exact bJ J J J J J | exact ag af 0 J J J J J | exact aV af J J J J J J J) | refine aH rfl (av J J J J ⟨J, trivial⟩ rfl (by kernel_rfl)) (fun w hm => tK v n hcn w (hN.below hm.below) (by omega)) J J ?_)
  cases h24 : oh v.c with
  | true =>
    refine aF rfl (by have h9 := h24; unfold oh at h9; rw [hcn] at h9; exact h9) ?_
    repeat' (first | refine ah ?_ | refine aa ?_ | refine ab ?_ | refine az ?_ | refine ak ?_ | refine ae ?_ | ((refine' am rfl ?_ J J ?_); rotate_left; exact ai af J J J J))
    refine ay af (fun _ => 0) J J trivial rfl fun w hm => ⟨?_, hm.below⟩
    rw [hv1, h24]; rfl
  | false =>
  refine au rfl (by have h9 := h24; unfold oh at h9; rw [hcn] at h9; exact h9) ?_
  rw [h24] at hv1
  repeat' (first | refine ah ?_ | refine ab ?_ | refine az ?_ | refine ar ?_ | refine aX aQ rfl (by kernel_rfl) ?_ | refine ae ?_ | refine bG ?_ | ((refine' dD rfl ?_ J J J ?_); rotate_left; first | exact ai af J J J J | exact ap af J J J J J J | exact bJ J J J J J | exact ag af 0 J J J J J | exact aV af J J J J J J J) | refine bk rfl (av J J J J ⟨J, trivial⟩ rfl (by kernel_rfl)) rfl (fun w hm => tK v n hcn w (hN.below hm.below) (by omega)) J J ?_ | refine bk rfl (av J J J J ⟨J, trivial⟩ rfl (by kernel_rfl)) rfl (fun w hm => wY v t htt w (hN.below hm.below) (by omega) hzv.tb (fun u hu => (hz.ok u hu).2.1)) J J ?_)
  refine ay af (fun _ => 0) J J trivial rfl fun w hm => ⟨?_, hm.below⟩
  rw [hv1]
  unfold tJ
  rw [hcn, htt]
  rfl
end Go.Proofs.YthiocbcokfondaaGreatDoor.Y
namespace Go.Proofs.YthiocbcokfondaaGreatDoor.Y
open Go.RowKit
attribute [local irreducible] Calls
set_option maxRecDepth 100000 in
set_option maxHeartbeats 8000000 in
theorem mj {A A' : Nat → Prop} (x x' : Option Addr) (c c' : Nat) (l : List cO) (w : World) (hR : Rws A w 4 fC x l) (hR' : Rws A' w 4 fC x' l) (hlen : l.length ≤ 9000000000000000000) : Calls Tryz.prog 40 #[.slice x l.length c, .slice x' l.length c'] w fun e w' => e = .returned (.bool true) ∧ Below w.heap.size w w' := by
  refine aI Tryz.func40 rfl Tryz.ntmps40 J J ?_
  repeat' (first | refine ah ?_ | refine aa ?_ | refine ab ?_ | refine ae ?_ | ((refine' am rfl ?_ J J ?_); rotate_left; first | exact ai af J J J J | exact ap af J J J J J J | exact aV af J J J J J J J))
  refine au rfl (by simp) ?_
  repeat' (first | refine ah ?_ | refine aa ?_ | refine ab ?_ | refine ar ?_ | refine aK ?_ | refine ae ?_ | ((refine' am rfl ?_ J J ?_); rotate_left; exact ai af J J J J))
  refine bu (σ := Nat) (fun p => p ≤ l.length) (fun p => [(5, [], .int .i64 ((p : Nat) : Int)), (0, [], .slice x l.length c), (1, [], .slice x' l.length c')]) (fun _ => []) (fun p => l.length - p) 0 [] (Nat.zero_le _) ⟨J, J, J, trivial⟩ rfl ?_
  intro j hj0
  by_cases hj : j < l.length
  · skip
    obtain ⟨s, hs⟩ : ∃ s, l[j]? = some s := ⟨l[j], List.getElem?_eq_getElem hj⟩
    obtain ⟨bb, off, hx, _, _, hrows⟩ := hR (by omega)
    obtain ⟨bb', off', hx', _, _, hrows'⟩ := hR' (by omega)
    have hrow : w.rangeAt bb (off + j * 4) (fC s) := hrows j s hs
    have hrow' : w.rangeAt bb' (off' + j * 4) (fC s) := hrows' j s hs
    repeat' (first | refine ah ?_ | refine aa ?_ | refine ab ?_ | refine ae ?_ | ((refine' am rfl ?_ J J ?_); rotate_left; first | exact ai af J J J J | exact ap af J J J J J J | exact aV af J J J J J J J))
    refine aF rfl (by simp; omega) ?_
    repeat' (first | refine ah ?_ | refine ab ?_ | refine ar ?_ | refine aK ?_ | refine aX aQ rfl (by kernel_rfl) ?_ | refine ae ?_ | refine bG ?_ | ((refine' dD rfl ?_ J J J ?_); rotate_left; first | exact bM af (m := 4) j rfl hx J J J J J J J (fun _ => rfl) (fun _ => hj) | exact bM af (m := 4) j rfl hx' J J J J J J J (fun _ => rfl) (fun _ => hj) | exact bg af (cs := fC s) J J J J J (fun _ => hrow) | exact bg af (cs := fC s) J J J J J (fun _ => hrow') | exact ai af J J J J | exact ig af jg J J J J J J (by kernel_rfl)))
    refine au rfl (by simp) ?_
    repeat' (first | refine aa ?_ | refine ab ?_ | refine ar ?_ | refine aE ?_ | refine ae ?_ | ((refine' am rfl ?_ J J ?_); rotate_left; first | exact bz J J J J J (by omega) | exact ai af J J J J))
    refine a8 (j + 1) [] hj (show l.length - (j + 1) < l.length - j by omega) ⟨J, J, J, trivial⟩ rfl
  · skip
    repeat' (first | refine ah ?_ | refine aa ?_ | refine ab ?_ | refine ae ?_ | ((refine' am rfl ?_ J J ?_); rotate_left; first | exact ai af J J J J | exact ap af J J J J J J | exact aV af J J J J J J J))
    refine au rfl (by simp; omega) ?_
    repeat' (first | refine ah ?_ | refine aa ?_ | refine ab ?_ | refine az ?_ | refine bj ?_ | refine aO ?_ | refine aU ?_ | refine ae ?_ | ((refine' am rfl ?_ J J ?_); rotate_left; exact ai af J J J J))
    refine ay af (fun _ => 0) J J trivial rfl fun w hm => ⟨?_, hm.below⟩
    rfl
set_option maxRecDepth 100000 in
set_option maxHeartbeats 8000000 in
theorem rq {A A' : Nat → Prop} (q : gR) (x x' : Option Addr) (c c' : Nat) (w : World) (hR : Rws A w 2 mC x q.metas) (hR' : Rws A' w 2 mC x' q.metas) (hlen : q.metas.length ≤ 9000000000000000000) : Calls Tryz.prog 94 #[.agg #[.string q.svc, .string q.mth, .int .i64 q.late, .slice x q.metas.length c], .agg #[.string q.svc, .string q.mth, .int .i64 q.late, .slice x' q.metas.length c']] w fun e w' => e = .returned (.bool true) ∧ Below w.heap.size w w' := by
  refine aI Tryz.func94 rfl Tryz.ntmps94 J J ?_
  refine ah ?_
  refine aa ?_
  (refine aW J J J J J J ?_; intro g2)
  (refine aW J J J J J J ?_; intro g3)
  repeat' (first | refine ah ?_ | refine aa ?_ | refine ab ?_ | refine ae ?_ | ((refine' am rfl ?_ J J ?_); rotate_left; first | exact ai af J J J J | exact ap af J J J J J J | exact bH J J J J J | exact ag af 0 J J J J J | exact ag af 1 J J J J J | exact aV af J J J J J J J))
  refine au rfl (by simp) ?_
  repeat' (first | refine ah ?_ | refine aa ?_ | refine ab ?_ | refine ar ?_ | refine aK ?_ | refine ae ?_ | ((refine' am rfl ?_ J J ?_); rotate_left; exact ai af J J J J))
  refine bu (σ := Nat) (fun p => p ≤ q.metas.length) (fun p => [(5, [], .int .i64 ((p : Nat) : Int)), (2, [], .pointer (some ⟨g2, 0, none⟩)), (3, [], .pointer (some ⟨g3, 0, none⟩))]) (fun _ => [.cl g3 36 [.string q.svc, .string q.mth, .int .i64 q.late, .slice x' q.metas.length c'], .cl g2 36 [.string q.svc, .string q.mth, .int .i64 q.late, .slice x q.metas.length c]]) (fun p => q.metas.length - p) 0 [true, true] (Nat.zero_le _) ⟨J, J, J, trivial⟩ rfl ?_
  intro j hj0
  by_cases hj : j < q.metas.length
  · skip
    obtain ⟨s, hs⟩ : ∃ s, q.metas[j]? = some s := ⟨q.metas[j], List.getElem?_eq_getElem hj⟩
    obtain ⟨bb, off, hx, _, _, hrows⟩ := hR (by omega)
    obtain ⟨bb', off', hx', _, _, hrows'⟩ := hR' (by omega)
    have hrow : w.rangeAt bb (off + j * 2) (mC s) := hrows j s hs
    have hrow' : w.rangeAt bb' (off' + j * 2) (mC s) := hrows' j s hs
    repeat' (first | refine ah ?_ | refine aa ?_ | refine ab ?_ | refine ae ?_ | ((refine' am rfl ?_ J J ?_); rotate_left; first | exact ai af J J J J | exact ap af J J J J J J | exact ag af 1 J J J J J | exact aV af J J J J J J J))
    refine aF rfl (by simp; omega) ?_
    repeat' (first | refine ah ?_ | refine ab ?_ | refine ar ?_ | refine aK ?_ | refine aX aQ rfl (by kernel_rfl) ?_ | refine ae ?_ | refine bG ?_ | ((refine' dD rfl ?_ J J J ?_); rotate_left; first | exact bM af (m := 2) j rfl hx J J J J J J J (fun _ => rfl) (fun _ => hj) | exact bM af (m := 2) j rfl hx' J J J J J J J (fun _ => rfl) (fun _ => hj) | exact bg af (cs := mC s) J J J J J (fun _ => hrow) | exact bg af (cs := mC s) J J J J J (fun _ => hrow') | exact ai af J J J J | exact ag af 0 J J J J J | exact ag af 1 J J J J J | exact ig af jg J J J J J J (by kernel_rfl)))
    refine au rfl (by simp) ?_
    repeat' (first | refine aa ?_ | refine ab ?_ | refine ar ?_ | refine aE ?_ | refine ae ?_ | ((refine' am rfl ?_ J J ?_); rotate_left; first | exact bz J J J J J (by omega) | exact ai af J J J J))
    refine a8 (j + 1) [true, true] hj (show q.metas.length - (j + 1) < q.metas.length - j by omega) ⟨J, J, J, trivial⟩ rfl
  · skip
    repeat' (first | refine ah ?_ | refine aa ?_ | refine ab ?_ | refine ae ?_ | ((refine' am rfl ?_ J J ?_); rotate_left; first | exact ai af J J J J | exact ap af J J J J J J | exact ag af 1 J J J J J | exact aV af J J J J J J J))
    refine au rfl (by simp; omega) ?_
    repeat' (first | refine ah ?_ | refine aa ?_ | refine ab ?_ | refine az ?_ | refine bj ?_ | refine aO ?_ | refine aU ?_ | refine ae ?_ | ((refine' am rfl ?_ J J ?_); rotate_left; exact ai af J J J J))
    refine ay af (fun _ => 0) J J trivial rfl fun w hm => ⟨?_, hm.below⟩
    rfl
set_option maxRecDepth 100000 in
set_option maxHeartbeats 8000000 in
theorem rt {A A' : Nat → Prop} (u u' : KV) (he : u'.k = u.k) (w : World) (hK : KOk A w u) (hK' : KOk A' w u') (hs : wt u.k) : Calls Tryz.prog 41 #[.agg #[.int .i64 u.k.st.id, .int .i64 u.k.st.side, .int .i64 u.k.st.shape, .int .i64 u.k.st.sent, .int .i64 u.k.st.got, .bool u.k.st.se, .bool u.k.st.ge, .bool u.k.st.done, .int .i64 u.k.st.code, .string u.k.st.text, .int .i64 u.k.st.snd.size, .int .i64 u.k.st.snd.left, .int .i64 u.k.st.snd.held, .int .i64 u.k.st.rcv.size, .int .i64 u.k.st.rcv.left, .int .i64 u.k.st.rcv.held, .string u.k.sv, .string u.k.mt, .int .i64 u.k.lt, .slice u.m u.k.ms.length u.mc, .slice u.i u.k.ib.length u.ic, .slice u.o u.k.ob.length u.oc], .agg #[.int .i64 u.k.st.id, .int .i64 u.k.st.side, .int .i64 u.k.st.shape, .int .i64 u.k.st.sent, .int .i64 u.k.st.got, .bool u.k.st.se, .bool u.k.st.ge, .bool u.k.st.done, .int .i64 u.k.st.code, .string u.k.st.text, .int .i64 u.k.st.snd.size, .int .i64 u.k.st.snd.left, .int .i64 u.k.st.snd.held, .int .i64 u.k.st.rcv.size, .int .i64 u.k.st.rcv.left, .int .i64 u.k.st.rcv.held, .string u.k.sv, .string u.k.mt, .int .i64 u.k.lt, .slice u'.m u.k.ms.length u'.mc, .slice u'.i u.k.ib.length u'.ic, .slice u'.o u.k.ob.length u'.oc]] w fun e w' => e = .returned (.bool true) ∧ Below w.heap.size w w' := by
  refine aI Tryz.func41 rfl Tryz.ntmps41 J J ?_
  obtain ⟨hM, hI, hO⟩ := hK
  obtain ⟨hM', hI', hO'⟩ := hK'
  rw [he] at hM' hI' hO'
  obtain ⟨hs1, hs2, hs3⟩ := hs
  refine ah ?_
  refine aa ?_
  (refine aW J J J J J J ?_; intro g2)
  (refine aW J J J J J J ?_; intro g3)
  repeat' (first | refine ah ?_ | refine aa ?_ | refine ab ?_ | refine ae ?_ | ((refine' am rfl ?_ J J ?_); rotate_left; first | exact ai af J J J J | exact ap af J J J J J J | exact bH J J J J J | exact ag af 0 J J J J J | exact ag af 1 J J J J J | exact ig af jg J J J J J J (by kernel_rfl) | exact aV af J J J J J J J) | refine aH rfl (av J J J J ⟨J, J, trivial⟩ rfl (by kernel_rfl)) (fun w hm => rq u.k.hd u.m u'.m u.mc u'.mc w (hM.below hm.below) (hM'.below hm.below) (by show u.k.ms.length ≤ _; omega)) J J ?_)
  refine au rfl (by simp) ?_
  repeat' (first | refine ah ?_ | refine aa ?_ | refine ab ?_ | refine ar ?_ | refine aK ?_ | refine ae ?_ | ((refine' am rfl ?_ J J ?_); rotate_left; exact ai af J J J J))
  refine bu (σ := Nat) (fun p => p ≤ u.k.ib.length) (fun p => [(5, [], .int .i64 ((p : Nat) : Int)), (2, [], .pointer (some ⟨g2, 0, none⟩)), (3, [], .pointer (some ⟨g3, 0, none⟩))]) (fun _ => [.cl g3 39 [.int .i64 u.k.st.id, .int .i64 u.k.st.side, .int .i64 u.k.st.shape, .int .i64 u.k.st.sent, .int .i64 u.k.st.got, .bool u.k.st.se, .bool u.k.st.ge, .bool u.k.st.done, .int .i64 u.k.st.code, .string u.k.st.text, .int .i64 u.k.st.snd.size, .int .i64 u.k.st.snd.left, .int .i64 u.k.st.snd.held, .int .i64 u.k.st.rcv.size, .int .i64 u.k.st.rcv.left, .int .i64 u.k.st.rcv.held, .string u.k.sv, .string u.k.mt, .int .i64 u.k.lt, .slice u'.m u.k.ms.length u'.mc, .slice u'.i u.k.ib.length u'.ic, .slice u'.o u.k.ob.length u'.oc], .cl g2 39 [.int .i64 u.k.st.id, .int .i64 u.k.st.side, .int .i64 u.k.st.shape, .int .i64 u.k.st.sent, .int .i64 u.k.st.got, .bool u.k.st.se, .bool u.k.st.ge, .bool u.k.st.done, .int .i64 u.k.st.code, .string u.k.st.text, .int .i64 u.k.st.snd.size, .int .i64 u.k.st.snd.left, .int .i64 u.k.st.snd.held, .int .i64 u.k.st.rcv.size, .int .i64 u.k.st.rcv.left, .int .i64 u.k.st.rcv.held, .string u.k.sv, .string u.k.mt, .int .i64 u.k.lt, .slice u.m u.k.ms.length u.mc, .slice u.i u.k.ib.length u.ic, .slice u.o u.k.ob.length u.oc]]) (fun p => u.k.ib.length - p) 0 [true, true] (Nat.zero_le _) ⟨J, J, J, trivial⟩ rfl ?_
  intro j hj0
  by_cases hj : j < u.k.ib.length
  · skip
    obtain ⟨s, hs⟩ : ∃ s, u.k.ib[j]? = some s := ⟨u.k.ib[j], List.getElem?_eq_getElem hj⟩
    obtain ⟨bb, off, hx, _, _, hrows⟩ := hI (by omega)
    obtain ⟨bb', off', hx', _, _, hrows'⟩ := hI' (by omega)
    have hrow : w.rangeAt bb (off + j * 1) (sC s) := hrows j s hs
    have hrow' : w.rangeAt bb' (off' + j * 1) (sC s) := hrows' j s hs
    repeat' (first | refine ah ?_ | refine aa ?_ | refine ab ?_ | refine ae ?_ | ((refine' am rfl ?_ J J ?_); rotate_left; first | exact ai af J J J J | exact ap af J J J J J J | exact ag af 1 J J J J J | exact aV af J J J J J J J))
    refine aF rfl (by simp; omega) ?_
    repeat' (first | refine ah ?_ | refine ab ?_ | refine ar ?_ | refine aK ?_ | refine aX aQ rfl (by kernel_rfl) ?_ | refine ae ?_ | refine bG ?_ | ((refine' dD rfl ?_ J J J ?_); rotate_left; first | exact bM af (m := 1) j rfl hx J J J J J J J (fun _ => rfl) (fun _ => hj) | exact bM af (m := 1) j rfl hx' J J J J J J J (fun _ => rfl) (fun _ => hj) | exact b8 af (v := .string s) J J J J J (fun _ => hrow 0 _ rfl) | exact b8 af (v := .string s) J J J J J (fun _ => hrow' 0 _ rfl) | exact ai af J J J J | exact ap af J J J J J J | exact ag af 0 J J J J J | exact ag af 1 J J J J J))
    refine au rfl (by simp) ?_
    repeat' (first | refine aa ?_ | refine ab ?_ | refine ar ?_ | refine aE ?_ | refine ae ?_ | ((refine' am rfl ?_ J J ?_); rotate_left; first | exact bz J J J J J (by omega) | exact ai af J J J J))
    refine a8 (j + 1) [true, true] hj (show u.k.ib.length - (j + 1) < u.k.ib.length - j by omega) ⟨J, J, J, trivial⟩ rfl
  · skip
    repeat' (first | refine ah ?_ | refine aa ?_ | refine ab ?_ | refine ae ?_ | ((refine' am rfl ?_ J J ?_); rotate_left; first | exact ai af J J J J | exact ap af J J J J J J | exact ag af 1 J J J J J | exact aV af J J J J J J J))
    refine au rfl (by simp; omega) ?_
    repeat' (first | refine ah ?_ | refine aa ?_ | refine ab ?_ | refine az ?_ | refine bj ?_ | refine aO ?_ | refine aU ?_ | refine ae ?_ | ((refine' am rfl ?_ J J ?_); rotate_left; first | exact ai af J J J J | exact ag af 0 J J J J J | exact ag af 1 J J J J J) | refine aH rfl (av J J J J ⟨J, J, trivial⟩ rfl (by kernel_rfl)) (fun w hm => mj u.o u'.o u.oc u'.oc u.k.ob w (hO.below hm.below) (hO'.below hm.below) (by omega)) J J ?_)
    refine ay af (fun _ => 0) J J trivial rfl fun w hm => ⟨?_, hm.below⟩
    rfl
end Go.Proofs.YthiocbcokfondaaGreatDoor.Y
namespace Go.Proofs.YthiocbcokfondaaGreatDoor.Y
open Go.RowKit
attribute [local irreducible] Calls
set_option maxRecDepth 100000 in
set_option maxHeartbeats 16000000 in
theorem ru {A A' : Nat → Prop} (v v' : NV) (he : v'.c = v.c) (w : World) (hN : NOk A w v) (hN' : NOk A' w v') (hz : pS v) : Calls Tryz.prog 12 #[.agg #[.int .i64 v.c.sd, .int .i64 v.c.nx, .int .i64 v.c.la, .int .i64 v.c.aw, .int .i64 v.c.sz, .int .i64 v.c.sw.size, .int .i64 v.c.sw.left, .int .i64 v.c.sw.held, .int .i64 v.c.rw.size, .int .i64 v.c.rw.left, .int .i64 v.c.rw.held, .slice v.x v.kv.length v.xc, .slice v.o v.c.ou.length v.oc, .slice v.p v.c.pg.length v.pc, .bool v.c.cl], .agg #[.int .i64 v.c.sd, .int .i64 v.c.nx, .int .i64 v.c.la, .int .i64 v.c.aw, .int .i64 v.c.sz, .int .i64 v.c.sw.size, .int .i64 v.c.sw.left, .int .i64 v.c.sw.held, .int .i64 v.c.rw.size, .int .i64 v.c.rw.left, .int .i64 v.c.rw.held, .slice v'.x v.kv.length v'.xc, .slice v'.o v.c.ou.length v'.oc, .slice v'.p v.c.pg.length v'.pc, .bool v.c.cl]] w fun e w' => e = .returned (.bool true) ∧ Below w.heap.size w w' := by
  refine aI Tryz.func12 rfl Tryz.ntmps12 J J ?_
  have hzk := hz.ks
  have hzo := hz.ou
  have hzp := hz.pg
  have hp' := hN'.pg
  have ho' := hN'.ou
  have hq' := hN'.eq
  rw [he] at hp' ho' hq'
  have hkm : v'.kv.map (·.k) = v.kv.map (·.k) := by rw [← hq', ← hN.eq]
  refine ah ?_
  refine aa ?_
  (refine aW J J J J J J ?_; intro g2)
  (refine aW J J J J J J ?_; intro g3)
  repeat' (first | refine ah ?_ | refine aa ?_ | refine ab ?_ | refine ae ?_ | ((refine' am rfl ?_ J J ?_); rotate_left; first | exact ai af J J J J | exact ap af J J J J J J | exact bH J J J J J | exact ag af 0 J J J J J | exact ag af 1 J J J J J | exact ig af jg J J J J J J (by kernel_rfl)))
  refine au rfl (by simp) ?_
  repeat' (first | refine ah ?_ | refine aa ?_ | refine ab ?_ | refine ar ?_ | refine ae ?_ | ((refine' am rfl ?_ J J ?_); rotate_left; first | exact ai af J J J J | exact ap af J J J J J J | exact bH J J J J J | exact ag af 0 J J J J J | exact ag af 1 J J J J J | exact aV af J J J J J J J) | refine aH rfl (av J J J J ⟨J, J, trivial⟩ rfl (by kernel_rfl)) (fun w hm => mj v.o v'.o v.oc v'.oc v.c.ou w (hN.ou.below hm.below) (ho'.below hm.below) (by omega)) J J ?_)
  refine au rfl (by simp) ?_
  repeat' (first | refine ah ?_ | refine aa ?_ | refine ab ?_ | refine ar ?_ | refine aK ?_ | refine ae ?_ | ((refine' am rfl ?_ J J ?_); rotate_left; exact ai af J J J J))
  refine bu (σ := Nat) (fun p => p ≤ v.kv.length) (fun p => [(5, [], .int .i64 ((p : Nat) : Int)), (2, [], .pointer (some ⟨g2, 0, none⟩)), (3, [], .pointer (some ⟨g3, 0, none⟩))]) (fun _ => [.cl g3 28 [.int .i64 v.c.sd, .int .i64 v.c.nx, .int .i64 v.c.la, .int .i64 v.c.aw, .int .i64 v.c.sz, .int .i64 v.c.sw.size, .int .i64 v.c.sw.left, .int .i64 v.c.sw.held, .int .i64 v.c.rw.size, .int .i64 v.c.rw.left, .int .i64 v.c.rw.held, .slice v'.x v.kv.length v'.xc, .slice v'.o v.c.ou.length v'.oc, .slice v'.p v.c.pg.length v'.pc, .bool v.c.cl], .cl g2 28 [.int .i64 v.c.sd, .int .i64 v.c.nx, .int .i64 v.c.la, .int .i64 v.c.aw, .int .i64 v.c.sz, .int .i64 v.c.sw.size, .int .i64 v.c.sw.left, .int .i64 v.c.sw.held, .int .i64 v.c.rw.size, .int .i64 v.c.rw.left, .int .i64 v.c.rw.held, .slice v.x v.kv.length v.xc, .slice v.o v.c.ou.length v.oc, .slice v.p v.c.pg.length v.pc, .bool v.c.cl]]) (fun p => v.kv.length - p) 0 [true, true] (Nat.zero_le _) ⟨J, J, J, trivial⟩ rfl ?_
  intro j hj0
  by_cases hj : j < v.kv.length
  · obtain ⟨u, hu⟩ : ∃ u, v.kv[j]? = some u := ⟨_, List.getElem?_eq_getElem hj⟩
    obtain ⟨u', hu', huk⟩ := pn hkm hu
    have hum := List.mem_of_getElem? hu
    have hum' := List.mem_of_getElem? hu'
    obtain ⟨bb, off, hx, _, _, hrows⟩ := hN.ks (by omega)
    obtain ⟨bb', off', hx', _, _, hrows'⟩ := hN'.ks (by rw [nY hkm]; omega)
    have hrow : w.rangeAt bb (off + j * 22) (KC u) := hrows j u hu
    have hrow' : w.rangeAt bb' (off' + j * 22) [.int .i64 u.k.st.id, .int .i64 u.k.st.side, .int .i64 u.k.st.shape, .int .i64 u.k.st.sent, .int .i64 u.k.st.got, .bool u.k.st.se, .bool u.k.st.ge, .bool u.k.st.done, .int .i64 u.k.st.code, .string u.k.st.text, .int .i64 u.k.st.snd.size, .int .i64 u.k.st.snd.left, .int .i64 u.k.st.snd.held, .int .i64 u.k.st.rcv.size, .int .i64 u.k.st.rcv.left, .int .i64 u.k.st.rcv.held, .string u.k.sv, .string u.k.mt, .int .i64 u.k.lt, .slice u'.m u.k.ms.length u'.mc, .slice u'.i u.k.ib.length u'.ic, .slice u'.o u.k.ob.length u'.oc] := by
      have h9 := hrows' j u' hu'
      unfold KC at h9
      rw [huk] at h9
      exact h9
    repeat' (first | refine ah ?_ | refine aa ?_ | refine ab ?_ | refine ae ?_ | ((refine' am rfl ?_ J J ?_); rotate_left; first | exact ai af J J J J | exact ap af J J J J J J | exact ag af 1 J J J J J | exact aV af J J J J J J J))
    refine aF rfl (by simp; omega) ?_
    repeat' (first | refine ah ?_ | refine ab ?_ | refine ar ?_ | refine aK ?_ | refine aX aQ rfl (by kernel_rfl) ?_ | refine ae ?_ | refine bG ?_ | ((refine' dD rfl ?_ J J J ?_); rotate_left; first | exact bM af (m := 22) j rfl hx J J J J J J J (fun _ => rfl) (fun _ => hj) | exact bM af (m := 22) j rfl hx' J J J J J J J (fun _ => rfl) (fun _ => hj) | exact bg af (cs := KC u) J J J J J (fun _ => hrow) | exact bg af J J J J J (fun _ => hrow') | exact ai af J J J J | exact ag af 0 J J J J J | exact ag af 1 J J J J J) | refine bk rfl (av J J J J ⟨J, J, trivial⟩ rfl (by kernel_rfl)) rfl (fun w hm => rt u u' huk w ((hN.ok u hum).below hm.below) ((hN'.ok u' hum').below hm.below) (hz.ok u hum)) J J ?_)
    refine au rfl (by simp) ?_
    repeat' (first | refine aa ?_ | refine ab ?_ | refine ar ?_ | refine aE ?_ | refine ae ?_ | ((refine' am rfl ?_ J J ?_); rotate_left; first | exact bz J J J J J (by omega) | exact ai af J J J J))
    refine a8 (j + 1) [true, true] hj (show v.kv.length - (j + 1) < v.kv.length - j by omega) ⟨J, J, J, trivial⟩ rfl
  repeat' (first | refine ah ?_ | refine aa ?_ | refine ab ?_ | refine ae ?_ | ((refine' am rfl ?_ J J ?_); rotate_left; first | exact ai af J J J J | exact ap af J J J J J J | exact ag af 1 J J J J J | exact aV af J J J J J J J))
  refine au rfl (by simp; omega) ?_
  repeat' (first | refine ah ?_ | refine aa ?_ | refine ab ?_ | refine aK ?_ | refine bj ?_ | refine aO ?_ | refine aU ?_ | refine ae ?_ | ((refine' am rfl ?_ J J ?_); rotate_left; exact ai af J J J J))
  refine bu (σ := Nat) (fun p => p ≤ v.c.pg.length) (fun p => [(6, [], .int .i64 ((p : Nat) : Int)), (2, [], .pointer (some ⟨g2, 0, none⟩)), (3, [], .pointer (some ⟨g3, 0, none⟩))]) (fun _ => [.cl g3 28 [.int .i64 v.c.sd, .int .i64 v.c.nx, .int .i64 v.c.la, .int .i64 v.c.aw, .int .i64 v.c.sz, .int .i64 v.c.sw.size, .int .i64 v.c.sw.left, .int .i64 v.c.sw.held, .int .i64 v.c.rw.size, .int .i64 v.c.rw.left, .int .i64 v.c.rw.held, .slice v'.x v.kv.length v'.xc, .slice v'.o v.c.ou.length v'.oc, .slice v'.p v.c.pg.length v'.pc, .bool v.c.cl], .cl g2 28 [.int .i64 v.c.sd, .int .i64 v.c.nx, .int .i64 v.c.la, .int .i64 v.c.aw, .int .i64 v.c.sz, .int .i64 v.c.sw.size, .int .i64 v.c.sw.left, .int .i64 v.c.sw.held, .int .i64 v.c.rw.size, .int .i64 v.c.rw.left, .int .i64 v.c.rw.held, .slice v.x v.kv.length v.xc, .slice v.o v.c.ou.length v.oc, .slice v.p v.c.pg.length v.pc, .bool v.c.cl]]) (fun p => v.c.pg.length - p) 0 [true, true] (Nat.zero_le _) ⟨J, J, J, trivial⟩ rfl ?_
  clear hj hj0
  intro j hj0
  by_cases hj : j < v.c.pg.length
  · obtain ⟨n, hs⟩ : ∃ n, v.c.pg[j]? = some n := ⟨_, List.getElem?_eq_getElem hj⟩
    obtain ⟨bb, off, hx, _, _, hrows⟩ := hN.pg (by omega)
    obtain ⟨bb', off', hx', _, _, hrows'⟩ := hp' (by omega)
    have hrow : w.rangeAt bb (off + j * 1) (iC n) := hrows j n hs
    have hrow' : w.rangeAt bb' (off' + j * 1) (iC n) := hrows' j n hs
    repeat' (first | refine ah ?_ | refine aa ?_ | refine ab ?_ | refine ae ?_ | ((refine' am rfl ?_ J J ?_); rotate_left; first | exact ai af J J J J | exact ap af J J J J J J | exact ag af 1 J J J J J | exact aV af J J J J J J J))
    refine aF rfl (by simp; omega) ?_
    repeat' (first | refine ah ?_ | refine ab ?_ | refine ar ?_ | refine aK ?_ | refine aX aQ rfl (by kernel_rfl) ?_ | refine ae ?_ | refine bG ?_ | ((refine' dD rfl ?_ J J J ?_); rotate_left; first | exact bM af (m := 1) j rfl hx J J J J J J J (fun _ => rfl) (fun _ => hj) | exact bM af (m := 1) j rfl hx' J J J J J J J (fun _ => rfl) (fun _ => hj) | exact b8 af (v := .int .i64 n) J J J J J (fun _ => hrow 0 _ rfl) | exact b8 af (v := .int .i64 n) J J J J J (fun _ => hrow' 0 _ rfl) | exact ai af J J J J | exact ap af J J J J J J | exact ag af 0 J J J J J | exact ag af 1 J J J J J))
    refine au rfl (by simp) ?_
    repeat' (first | refine aa ?_ | refine ab ?_ | refine ar ?_ | refine aE ?_ | refine ae ?_ | ((refine' am rfl ?_ J J ?_); rotate_left; first | exact bz J J J J J (by omega) | exact ai af J J J J))
    refine a8 (j + 1) [true, true] hj (show v.c.pg.length - (j + 1) < v.c.pg.length - j by omega) ⟨J, J, J, trivial⟩ rfl
  repeat' (first | refine ah ?_ | refine aa ?_ | refine ab ?_ | refine ae ?_ | ((refine' am rfl ?_ J J ?_); rotate_left; first | exact ai af J J J J | exact ap af J J J J J J | exact ag af 1 J J J J J | exact aV af J J J J J J J))
  refine au rfl (by simp; omega) ?_
  repeat' (first | refine ah ?_ | refine aa ?_ | refine ab ?_ | refine az ?_ | refine bj ?_ | refine aO ?_ | refine aU ?_ | refine ae ?_ | ((refine' am rfl ?_ J J ?_); rotate_left; exact ai af J J J J))
  refine ay af (fun _ => 0) J J trivial rfl fun w hm => ⟨?_, hm.below⟩
  rfl
theorem vS {A : Nat → Prop} (v : NV) (id : Int) (o : Option Nat) (w : World) (hN : NOk A w v) (hzk : v.kv.length ≤ 606626243774) (h : dO id v.c.ks 0 = o) : Calls Tryz.prog 39 #[.agg #[.int .i64 v.c.sd, .int .i64 v.c.nx, .int .i64 v.c.la, .int .i64 v.c.aw, .int .i64 v.c.sz, .int .i64 v.c.sw.size, .int .i64 v.c.sw.left, .int .i64 v.c.sw.held, .int .i64 v.c.rw.size, .int .i64 v.c.rw.left, .int .i64 v.c.rw.held, .slice v.x v.kv.length v.xc, .slice v.o v.c.ou.length v.oc, .slice v.p v.c.pg.length v.pc, .bool v.c.cl], .int .i64 id] w fun e w' => e = .returned (.int .i64 (xX o)) ∧ Below w.heap.size w w' := by subst h; exact sX v id w hN hzk
set_option maxRecDepth 100000 in
set_option maxHeartbeats 8000000 in
theorem pu {A : Nat → Prop} (v : NV) (id : Int) (w : World) (hN : NOk A w v) (hzk : v.kv.length ≤ 606626243774) : Calls Tryz.prog 11 #[.agg #[.int .i64 v.c.sd, .int .i64 v.c.nx, .int .i64 v.c.la, .int .i64 v.c.aw, .int .i64 v.c.sz, .int .i64 v.c.sw.size, .int .i64 v.c.sw.left, .int .i64 v.c.sw.held, .int .i64 v.c.rw.size, .int .i64 v.c.rw.left, .int .i64 v.c.rw.held, .slice v.x v.kv.length v.xc, .slice v.o v.c.ou.length v.oc, .slice v.p v.c.pg.length v.pc, .bool v.c.cl], .int .i64 id] w fun e w' => ∃ u : KV, (u.k = (dI v.c id).1 ∧ (u = yd ∨ u ∈ v.kv)) ∧ e = .returned (.tuple #[.agg ⟨KC u⟩, .bool (dI v.c id).2]) ∧ Below w.heap.size w w' := by
  refine aI Tryz.func11 rfl Tryz.ntmps11 J J ?_
  cases hf : dO id v.c.ks 0 with
  | none =>
    have hfl : dI v.c id = (xK, false) := by unfold dI; rw [hf]
    rw [hfl]
    repeat' (first | refine ah ?_ | refine aa ?_ | refine ab ?_ | refine ae ?_ | (refine aW J J J J J J ?_; intro g2) | (refine aN af J J J J J J ?_; intro g4) | ((refine' am rfl ?_ J J ?_); rotate_left; first | exact ai af J J J J | exact ap af J J J J J J | exact ag af 1 J J J J J) | refine aH rfl (av J J J J ⟨J, J, trivial⟩ rfl (by kernel_rfl)) (fun w hm => vS v id none w (hN.below hm.below) hzk hf) J J ?_)
    refine aF J J ?_
    repeat' (first | refine ah ?_ | refine aa ?_ | refine ab ?_ | refine az ?_ | refine ak ?_ | refine ae ?_ | ((refine' am rfl ?_ J J ?_); rotate_left; first | exact ai af J J J J | exact aT af J J trivial J J J) | refine aq af 0 J J J J J J J J J J J J ?_)
    (refine ay af (fun _ => 0) J J ⟨J, trivial⟩ rfl fun w1 hm => ⟨yd, ⟨rfl, .inl rfl⟩, rfl, hm.below⟩)
  | some i =>
    obtain ⟨q, hq, _⟩ := mQ hf
    obtain ⟨u, hu, huk⟩ : ∃ u, v.kv[i]? = some u ∧ u.k = q := by rw [hN.eq, List.getElem?_map] at hq; simpa using hq
    have hat := pk hN.eq hu
    have hfl : dI v.c id = (u.k, true) := by unfold dI; rw [hf]; dsimp only; rw [hat]
    rw [hfl]
    have hj : i < v.kv.length := (List.getElem?_eq_some_iff.1 hu).1
    obtain ⟨bb, off, hx, _, _, hrows⟩ := hN.ks (by omega)
    have hrow : w.rangeAt bb (off + i * 22) (KC u) := hrows i u hu
    repeat' (first | refine ah ?_ | refine aa ?_ | refine ab ?_ | refine ae ?_ | (refine aW J J J J J J ?_; intro g2) | (refine aN af J J J J J J ?_; intro g4) | ((refine' am rfl ?_ J J ?_); rotate_left; first | exact ai af J J J J | exact ap af J J J J J J | exact ag af 1 J J J J J) | refine aH rfl (av J J J J ⟨J, J, trivial⟩ rfl (by kernel_rfl)) (fun w hm => vS v id (some i) w (hN.below hm.below) hzk hf) J J ?_)
    refine au rfl (show decide (((i : Nat) : Int) < 0) = false from decide_eq_false (by omega)) ?_
    repeat' (first | refine ah ?_ | refine aa ?_ | refine ab ?_ | refine az ?_ | refine ar ?_ | refine ae ?_ | ((refine' am rfl ?_ J J ?_); rotate_left; first | exact bM af (m := 22) i rfl hx J J J J J J J (fun _ => rfl) (fun _ => hj) | exact bg af (cs := KC u) J J J J J (fun _ => hrow) | exact ai af J J J J | exact ag af 1 J J J J J) | refine aq af 0 J J J J J J J J J J J J ?_)
    (refine ay af (fun _ => 0) J J ⟨J, trivial⟩ rfl fun w1 hm => ⟨u, ⟨rfl, .inr (List.mem_of_getElem? hu)⟩, rfl, hm.below⟩)
end Go.Proofs.YthiocbcokfondaaGreatDoor.Y
