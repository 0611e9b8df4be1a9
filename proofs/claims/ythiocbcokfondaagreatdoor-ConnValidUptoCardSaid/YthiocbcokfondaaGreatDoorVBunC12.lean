/- Texts of this claim merged into one: VCn12, VCn13. -/
import Derived.Test.YthiocbcokfondaaGreatDoorVBunC10
import Derived.Test.YthiocbcokfondaaGreatDoorVBunI
namespace Go.Proofs.YthiocbcokfondaaGreatDoor.Y
open Go.RowKit
theorem wT (s : cP) (f : cO) (r : sk) (h : cD s f = r) (w : World) (htx : s.text.size ≤ 4611686018427387900) (hfd : f.data.size < 4294967281) : Calls Tryz.prog 116 #[.agg #[.int .i64 s.id, .int .i64 s.side, .int .i64 s.shape, .int .i64 s.sent, .int .i64 s.got, .bool s.se, .bool s.ge, .bool s.done, .int .i64 s.code, .string s.text, .int .i64 s.snd.size, .int .i64 s.snd.left, .int .i64 s.snd.held, .int .i64 s.rcv.size, .int .i64 s.rcv.left, .int .i64 s.rcv.held], .agg #[.int .i64 f.kind, .int .i64 f.strm, .int .i64 f.num, .string f.data]] w fun e w' => e = .returned (.tuple #[.agg ⟨tC r.st⟩, .int .i64 r.err]) ∧ Below w.heap.size w w' := by
  subst h
  exact qR s.id s.side s.shape s.sent s.got s.se s.ge s.done s.code s.text s.snd.size s.snd.left s.snd.held s.rcv.size s.rcv.left s.rcv.held f.kind f.strm f.num f.data w htx hfd
def iX (c : NL) (k : KR) : Bool := match k.ob with
  | [] => false
  | f :: _ => f.kind != 2 || (decide (bE f.data ≤ k.st.snd.left) && decide (bE f.data ≤ c.sw.left))
attribute [local irreducible] Calls
set_option maxRecDepth 100000 in
set_option maxHeartbeats 8000000 in
theorem rl (s : cP) (w : World) : Calls Tryz.prog 153 #[.agg #[.int .i64 s.id, .int .i64 s.side, .int .i64 s.shape, .int .i64 s.sent, .int .i64 s.got, .bool s.se, .bool s.ge, .bool s.done, .int .i64 s.code, .string s.text, .int .i64 s.snd.size, .int .i64 s.snd.left, .int .i64 s.snd.held, .int .i64 s.rcv.size, .int .i64 s.rcv.left, .int .i64 s.rcv.held]] w fun e w' => e = .returned (.agg ⟨tC (ip s)⟩) ∧ Below w.heap.size w w' := by
  refine aI Tryz.func153 rfl Tryz.ntmps153 J J ?_
  repeat' (first | refine ah ?_ | refine aa ?_ | refine ab ?_ | refine az ?_ | refine ae ?_ | ((refine' am rfl ?_ J J ?_); rotate_left; first | exact ai af J J J J | exact ag af 1 J J J J J) | (refine aW J J J J J J ?_; intro g) | (refine aN af J J J J J J ?_; intro g) | refine aq af 0 J J J J J J J J J J J J ?_ | refine aq af 1 J J J J J J J J J J J J ?_)
  (refine ay af (fun _ => 0) J J ⟨J, trivial⟩ rfl fun w1 hm => ⟨rfl, hm.below⟩)
theorem tG (s t : cP) (h : ip s = t) (w : World) : Calls Tryz.prog 153 #[.agg #[.int .i64 s.id, .int .i64 s.side, .int .i64 s.shape, .int .i64 s.sent, .int .i64 s.got, .bool s.se, .bool s.ge, .bool s.done, .int .i64 s.code, .string s.text, .int .i64 s.snd.size, .int .i64 s.snd.left, .int .i64 s.snd.held, .int .i64 s.rcv.size, .int .i64 s.rcv.left, .int .i64 s.rcv.held]] w fun e w' => e = .returned (.agg ⟨tC t⟩) ∧ Below w.heap.size w w' := by
  subst h
  exact rl s w
set_option maxRecDepth 100000 in
set_option maxHeartbeats 16000000 in
theorem rm {A : Nat → Prop} (u : KV) (w : World) (hO : Rws A w 4 fC u.o u.k.ob) (hzo : u.k.ob.length ≤ 3518437208883) (htx : u.k.st.text.size ≤ 4611686018427387900) (hfd : ∀ f ∈ u.k.ob, f.data.size < 4294967281) : Calls Tryz.prog 81 #[.agg #[.int .i64 u.k.st.id, .int .i64 u.k.st.side, .int .i64 u.k.st.shape, .int .i64 u.k.st.sent, .int .i64 u.k.st.got, .bool u.k.st.se, .bool u.k.st.ge, .bool u.k.st.done, .int .i64 u.k.st.code, .string u.k.st.text, .int .i64 u.k.st.snd.size, .int .i64 u.k.st.snd.left, .int .i64 u.k.st.snd.held, .int .i64 u.k.st.rcv.size, .int .i64 u.k.st.rcv.left, .int .i64 u.k.st.rcv.held, .string u.k.sv, .string u.k.mt, .int .i64 u.k.lt, .slice u.m u.k.ms.length u.mc, .slice u.i u.k.ib.length u.ic, .slice u.o u.k.ob.length u.oc]] w fun e w' => e = .returned (.tuple #[.agg ⟨tC (dH u.k.ob u.k.st).st⟩, .bool (decide ((dH u.k.ob u.k.st).err = 0))]) ∧ Below w.heap.size w w' := by
  refine aI Tryz.func81 rfl Tryz.ntmps81 J J ?_
  refine ah ?_
  refine aa ?_
  (refine aW J J J J J J ?_; intro g1)
  (refine aN af J J J J J J ?_; intro g2)
  repeat' (first | refine ah ?_ | refine aa ?_ | refine ab ?_ | refine aK ?_ | refine ae ?_ | (refine aN af J J J J J J ?_; intro g4) | ((refine' am rfl ?_ J J ?_); rotate_left; first | exact ai af J J J J | exact ag af 1 J J J J J) | refine aH rfl (av J J J J ⟨J, trivial⟩ rfl (by kernel_rfl)) (fun w hm => tG u.k.st (ip u.k.st) rfl w) J J ?_ | refine aq af 0 J J J J J J J J J J J J ?_)
  refine bu (σ := Nat × cP) (fun p => p.1 ≤ u.k.ob.length ∧ p.2.text.size ≤ 4611686018427387900 ∧ dH u.k.ob u.k.st = dH (u.k.ob.drop p.1) p.2) (fun p => [(5, [], .int .i64 ((p.1 : Nat) : Int)), (1, [], .pointer (some ⟨g1, 0, none⟩)), (4, [], .pointer (some ⟨g4, 0, none⟩)), (2, [], .pointer (some ⟨g2, 0, none⟩))]) (fun p => [.cl g4 33 (tC (ip p.2)), .cl g2 33 [.int .i64 0, .int .i64 0, .int .i64 0, .int .i64 0, .int .i64 0, .bool false, .bool false, .bool false, .int .i64 0, .string ⟨#[]⟩, .int .i64 0, .int .i64 0, .int .i64 0, .int .i64 0, .int .i64 0, .int .i64 0], .cl g1 39 [.int .i64 u.k.st.id, .int .i64 u.k.st.side, .int .i64 u.k.st.shape, .int .i64 u.k.st.sent, .int .i64 u.k.st.got, .bool u.k.st.se, .bool u.k.st.ge, .bool u.k.st.done, .int .i64 u.k.st.code, .string u.k.st.text, .int .i64 u.k.st.snd.size, .int .i64 u.k.st.snd.left, .int .i64 u.k.st.snd.held, .int .i64 u.k.st.rcv.size, .int .i64 u.k.st.rcv.left, .int .i64 u.k.st.rcv.held, .string u.k.sv, .string u.k.mt, .int .i64 u.k.lt, .slice u.m u.k.ms.length u.mc, .slice u.i u.k.ib.length u.ic, .slice u.o u.k.ob.length u.oc]]) (fun p => u.k.ob.length - p.1) (0, u.k.st) [true, true, true] ⟨Nat.zero_le _, htx, rfl⟩ ⟨J, J, J, J, trivial⟩ rfl ?_
  rintro ⟨j, s⟩ ⟨hj0, hs0, hr⟩
  dsimp only at hj0 hs0 hr ⊢
  by_cases hj : j < u.k.ob.length
  · obtain ⟨f, hf⟩ : ∃ f, u.k.ob[j]? = some f := ⟨u.k.ob[j], List.getElem?_eq_getElem hj⟩
    obtain ⟨bb, off, hx, _, _, hrows⟩ := hO (by omega)
    have hrow : w.rangeAt bb (off + j * 4) (fC f) := hrows j f hf
    have hfd0 := hfd f (List.mem_of_getElem? hf)
    obtain ⟨r, hr0⟩ : ∃ r, cD (ip s) f = r := ⟨_, rfl⟩
    have hrt : r.st.text.size ≤ 4611686018427387900 := by rw [← hr0]; exact iV hs0 hfd0
    rw [cz hf, dH, hr0] at hr
    repeat' (first | refine ah ?_ | refine aa ?_ | refine ab ?_ | refine ae ?_ | ((refine' am rfl ?_ J J ?_); rotate_left; first | exact ai af J J J J | exact ap af J J J J J J | exact ag af 2 J J J J J | exact aV af J J J J J J J))
    refine aF rfl (by simp; omega) ?_
    repeat' (first | refine ah ?_ | refine aa ?_ | refine ab ?_ | refine ar ?_ | refine aK ?_ | refine aX aQ rfl (by kernel_rfl) ?_ | refine ae ?_ | (refine fK ?_; intro g) | ((first | refine' am rfl ?_ J J ?_ | refine' dD rfl ?_ J J J ?_); rotate_left; first | exact bM af (m := 4) j rfl hx J J J J J J J (fun _ => rfl) (fun _ => hj) | exact bg af (cs := fC f) J J J J J (fun _ => hrow) | exact ai af J J J J | exact ap af J J J J J J | exact ag af 0 J J J J J | exact ag af 2 J J J J J) | refine bk rfl (av J J J J ⟨J, J, trivial⟩ rfl (by kernel_rfl)) rfl (fun w hm => wT (ip s) f r hr0 w hs0 hfd0) J J ?_ | refine eN af J J J J J J ?_ | refine aq af 0 J J J J J J J J J J J J ?_)
    by_cases he : r.err = 0
    · rw [if_neg (by simpa using he)] at hr
      refine au rfl (by simpa using he) ?_
      repeat' (first | refine aa ?_ | refine ab ?_ | refine ar ?_ | refine aE ?_ | refine ae ?_ | ((refine' am rfl ?_ J J ?_); rotate_left; first | exact bz J J J J J (by omega) | exact ai af J J J J | exact ag af 0 J J J J J) | refine aH rfl (av J J J J ⟨J, trivial⟩ rfl (by kernel_rfl)) (fun w hm => tG r.st (ip r.st) rfl w) J J ?_ | refine aq af 1 J J J J J J J J J J J J ?_)
      refine a8 (j + 1, r.st) [false, true, true, true] ⟨hj, hrt, hr⟩ (show u.k.ob.length - (j + 1) < u.k.ob.length - j by omega) ⟨J, J, J, J, trivial⟩ rfl
    · rw [if_pos (by simpa using he)] at hr
      refine aF rfl (by simpa using he) ?_
      repeat' (first | refine ah ?_ | refine aa ?_ | refine ab ?_ | refine az ?_ | refine ak ?_ | refine a7 ?_ | refine ae ?_ | ((refine' am rfl ?_ J J ?_); rotate_left; first | exact ai af J J J J | exact ag af 1 J J J J J) | refine aq af 2 J J J J J J J J J J J J ?_)
      (refine ay af (fun _ => 2) J J ⟨J, trivial⟩ rfl fun w1 hm => ⟨?_, hm.below⟩)
      rw [hr, decide_eq_false (show ¬ (⟨ip s, r.err⟩ : sk).err = 0 from he)]
      rfl
  · rw [List.drop_eq_nil_of_le (by omega), dH] at hr
    repeat' (first | refine ah ?_ | refine aa ?_ | refine ab ?_ | refine ae ?_ | ((refine' am rfl ?_ J J ?_); rotate_left; first | exact ai af J J J J | exact ap af J J J J J J | exact ag af 2 J J J J J | exact aV af J J J J J J J))
    refine au rfl (by simp; omega) ?_
    repeat' (first | refine ah ?_ | refine aa ?_ | refine ab ?_ | refine az ?_ | refine bj ?_ | refine aO ?_ | refine aU ?_ | refine ae ?_ | ((refine' am rfl ?_ J J ?_); rotate_left; first | exact ai af J J J J | exact ag af 0 J J J J J) | refine aq af 1 J J J J J J J J J J J J ?_)
    (refine ay af (fun _ => 1) J J ⟨J, trivial⟩ rfl fun w1 hm => ⟨?_, hm.below⟩)
    rw [hr]
    rfl
set_option maxRecDepth 100000 in
set_option maxHeartbeats 8000000 in
theorem rn {A : Nat → Prop} (v : NV) (u : KV) (w : World) (hO : Rws A w 4 fC u.o u.k.ob) : Calls Tryz.prog 83 #[.agg #[.int .i64 v.c.sd, .int .i64 v.c.nx, .int .i64 v.c.la, .int .i64 v.c.aw, .int .i64 v.c.sz, .int .i64 v.c.sw.size, .int .i64 v.c.sw.left, .int .i64 v.c.sw.held, .int .i64 v.c.rw.size, .int .i64 v.c.rw.left, .int .i64 v.c.rw.held, .slice v.x v.kv.length v.xc, .slice v.o v.c.ou.length v.oc, .slice v.p v.c.pg.length v.pc, .bool v.c.cl], .agg #[.int .i64 u.k.st.id, .int .i64 u.k.st.side, .int .i64 u.k.st.shape, .int .i64 u.k.st.sent, .int .i64 u.k.st.got, .bool u.k.st.se, .bool u.k.st.ge, .bool u.k.st.done, .int .i64 u.k.st.code, .string u.k.st.text, .int .i64 u.k.st.snd.size, .int .i64 u.k.st.snd.left, .int .i64 u.k.st.snd.held, .int .i64 u.k.st.rcv.size, .int .i64 u.k.st.rcv.left, .int .i64 u.k.st.rcv.held, .string u.k.sv, .string u.k.mt, .int .i64 u.k.lt, .slice u.m u.k.ms.length u.mc, .slice u.i u.k.ib.length u.ic, .slice u.o u.k.ob.length u.oc]] w fun e w' => e = .returned (.bool (iX v.c u.k)) ∧ Below w.heap.size w w' := by
  refine aI Tryz.func83 rfl Tryz.ntmps83 J J ?_
  repeat' (first | refine ah ?_ | refine aa ?_ | refine ab ?_ | refine ae ?_ | ((refine' am rfl ?_ J J ?_); rotate_left; first | exact ai af J J J J | exact ap af J J J J J J | exact ag af 0 J J J J J | exact aV af J J J J J J J) | (refine aW J J J J J J ?_; intro g))
  by_cases h0 : u.k.ob = []
  · refine aF rfl (by rw [h0]; rfl) ?_
    repeat' (first | refine ah ?_ | refine aa ?_ | refine ab ?_ | refine az ?_ | refine ak ?_ | refine ae ?_ | ((refine' am rfl ?_ J J ?_); rotate_left; exact ai af J J J J))
    refine ay af (fun _ => 0) J J trivial rfl fun w hm => ⟨?_, hm.below⟩
    unfold iX; rw [h0]
  obtain ⟨f, r, hfr⟩ : ∃ f r, u.k.ob = f :: r := by cases h : u.k.ob with | nil => exact absurd h h0 | cons f r => exact ⟨f, r, rfl⟩
  have hj : 0 < u.k.ob.length := by rw [hfr]; exact Nat.succ_pos _
  obtain ⟨bb, off, hx, _, _, hrows⟩ := hO hj
  have hrow : w.rangeAt bb (off + 0 * 4) (fC f) := hrows 0 f (by rw [hfr]; rfl)
  refine au rfl (by rw [hfr]; simp; omega) ?_
  repeat' (first | refine ah ?_ | refine aa ?_ | refine ab ?_ | refine az ?_ | refine ar ?_ | refine ae ?_ | (refine aN af J J J J J J ?_; intro g5) | ((refine' am rfl ?_ J J ?_); rotate_left; first | exact bM af (m := 4) 0 rfl hx J J J J J J J (fun _ => rfl) (fun _ => hj) | exact bg af (cs := fC f) J J J J J (fun _ => hrow) | exact ai af J J J J | exact ap af J J J J J J | exact bH J J J J J | exact bJ J J J J J | exact ag af 0 J J J J J | exact ag af 1 J J J J J | exact ag af 2 J J J J J) | refine aH rfl (av J J J J ⟨J, trivial⟩ rfl (by kernel_rfl)) (fun w hm => jx f.data w) J J ?_ | refine aq af 0 J J J J J J J J J J J J ?_)
  refine ay af (fun _ => 0) J J trivial rfl fun w hm => ⟨?_, hm.below⟩
  unfold iX; rw [hfr]
end Go.Proofs.YthiocbcokfondaaGreatDoor.Y
namespace Go.Proofs.YthiocbcokfondaaGreatDoor.Y
open Go.RowKit
theorem wU {A : Nat → Prop} (h : gR) (x : Option Addr) (c : Nat) (e : Int) (he : bd h = e) (w : World) (hm : Rws A w 2 mC x h.metas) (hz : eo h) : Calls Tryz.prog 79 #[.agg ⟨[.string h.svc, .string h.mth, .int .i64 h.late, .slice x h.metas.length c]⟩] w fun r w' => r = .returned (.tuple ⟨[.string (nw h), .int .i64 e]⟩) ∧ Below w.heap.size w w' := by
  have h1 := lT h (.slice x h.metas.length c) w (vL hm c) hz
  rw [mg, he] at h1
  exact h1
def xl (c : NL) (k : KR) : Bool := !cn k.st || k.st.side != c.sd || decide (k.st.id > c.la) || k.st.snd.size != c.sz || k.st.rcv.size != c.sz || k.st.snd.held != 0 || bd k.hd != 0
def qh (f : cO) : Bool := f.kind == 2 || f.kind == 3 || f.kind == 4
def gS (c : NL) (k : KR) : Bool := if xl c k then false else if k.ib.all (fun m => decide (m.size ≤ 16384)) then (if k.st.done then decide (k.ob.length = 0) else if k.ob.all qh then decide ((dH k.ob k.st).err = 0) && decide (ce k.ib ≤ k.st.rcv.held) && !iX c k else false) else false
attribute [local irreducible] Calls
theorem wV (s : cP) (b : Bool) (h : cn s = b) (w : World) (htx : s.text.size ≤ 4611686018427387900) : Calls Tryz.prog 80 #[.agg #[.int .i64 s.id, .int .i64 s.side, .int .i64 s.shape, .int .i64 s.sent, .int .i64 s.got, .bool s.se, .bool s.ge, .bool s.done, .int .i64 s.code, .string s.text, .int .i64 s.snd.size, .int .i64 s.snd.left, .int .i64 s.snd.held, .int .i64 s.rcv.size, .int .i64 s.rcv.left, .int .i64 s.rcv.held]] w fun e w' => e = .returned (.bool b) ∧ Below w.heap.size w w' := by
  subst h
  exact kQ s.id s.side s.shape s.sent s.got s.se s.ge s.done s.code s.text s.snd.size s.snd.left s.snd.held s.rcv.size s.rcv.left s.rcv.held w htx
theorem ym {A : Nat → Prop} (u : KV) (r : sk) (h : dH u.k.ob u.k.st = r) (w : World) (hO : Rws A w 4 fC u.o u.k.ob) (hzo : u.k.ob.length ≤ 3518437208883) (htx : u.k.st.text.size ≤ 4611686018427387900) (hfd : ∀ f ∈ u.k.ob, f.data.size < 4294967281) : Calls Tryz.prog 81 #[.agg #[.int .i64 u.k.st.id, .int .i64 u.k.st.side, .int .i64 u.k.st.shape, .int .i64 u.k.st.sent, .int .i64 u.k.st.got, .bool u.k.st.se, .bool u.k.st.ge, .bool u.k.st.done, .int .i64 u.k.st.code, .string u.k.st.text, .int .i64 u.k.st.snd.size, .int .i64 u.k.st.snd.left, .int .i64 u.k.st.snd.held, .int .i64 u.k.st.rcv.size, .int .i64 u.k.st.rcv.left, .int .i64 u.k.st.rcv.held, .string u.k.sv, .string u.k.mt, .int .i64 u.k.lt, .slice u.m u.k.ms.length u.mc, .slice u.i u.k.ib.length u.ic, .slice u.o u.k.ob.length u.oc]] w fun e w' => e = .returned (.tuple #[.agg ⟨tC r.st⟩, .bool (decide (r.err = 0))]) ∧ Below w.heap.size w w' := by
  subst h
  exact rm u w hO hzo htx hfd
theorem wW {A : Nat → Prop} (v : NV) (u : KV) (b : Bool) (h : iX v.c u.k = b) (w : World) (hO : Rws A w 4 fC u.o u.k.ob) : Calls Tryz.prog 83 #[.agg #[.int .i64 v.c.sd, .int .i64 v.c.nx, .int .i64 v.c.la, .int .i64 v.c.aw, .int .i64 v.c.sz, .int .i64 v.c.sw.size, .int .i64 v.c.sw.left, .int .i64 v.c.sw.held, .int .i64 v.c.rw.size, .int .i64 v.c.rw.left, .int .i64 v.c.rw.held, .slice v.x v.kv.length v.xc, .slice v.o v.c.ou.length v.oc, .slice v.p v.c.pg.length v.pc, .bool v.c.cl], .agg #[.int .i64 u.k.st.id, .int .i64 u.k.st.side, .int .i64 u.k.st.shape, .int .i64 u.k.st.sent, .int .i64 u.k.st.got, .bool u.k.st.se, .bool u.k.st.ge, .bool u.k.st.done, .int .i64 u.k.st.code, .string u.k.st.text, .int .i64 u.k.st.snd.size, .int .i64 u.k.st.snd.left, .int .i64 u.k.st.snd.held, .int .i64 u.k.st.rcv.size, .int .i64 u.k.st.rcv.left, .int .i64 u.k.st.rcv.held, .string u.k.sv, .string u.k.mt, .int .i64 u.k.lt, .slice u.m u.k.ms.length u.mc, .slice u.i u.k.ib.length u.ic, .slice u.o u.k.ob.length u.oc]] w fun e w' => e = .returned (.bool b) ∧ Below w.heap.size w w' := by
  subst h
  exact rn v u w hO
theorem yn (u : KV) (n : Int) (h : ce u.k.ib = n) {A : Nat → Prop} (w : World) (hI : Rws A w 1 sC u.i u.k.ib) (hub : ce u.k.ib ≤ 4611686018427387904) (hzi : u.k.ib.length ≤ 8796093022208) : Calls Tryz.prog 82 #[.agg #[.int .i64 u.k.st.id, .int .i64 u.k.st.side, .int .i64 u.k.st.shape, .int .i64 u.k.st.sent, .int .i64 u.k.st.got, .bool u.k.st.se, .bool u.k.st.ge, .bool u.k.st.done, .int .i64 u.k.st.code, .string u.k.st.text, .int .i64 u.k.st.snd.size, .int .i64 u.k.st.snd.left, .int .i64 u.k.st.snd.held, .int .i64 u.k.st.rcv.size, .int .i64 u.k.st.rcv.left, .int .i64 u.k.st.rcv.held, .string u.k.sv, .string u.k.mt, .int .i64 u.k.lt, .slice u.m u.k.ms.length u.mc, .slice u.i u.k.ib.length u.ic, .slice u.o u.k.ob.length u.oc]] w fun e w' => e = .returned (.int .i64 n) ∧ Below w.heap.size w w' := by
  subst h
  exact ma u w hI hub hzi
set_option maxRecDepth 100000 in
set_option maxHeartbeats 16000000 in
theorem tH {A : Nat → Prop} (v : NV) (u : KV) (w : World) (hK : KOk A w u) (hub : ce u.k.ib ≤ 4611686018427387904) (hs : wt u.k) (htx : u.k.st.text.size ≤ 4611686018427387900) (hfd : ∀ f ∈ u.k.ob, f.data.size < 4294967281) (hhz : eo u.k.hd) : Calls Tryz.prog 33 #[.agg #[.int .i64 v.c.sd, .int .i64 v.c.nx, .int .i64 v.c.la, .int .i64 v.c.aw, .int .i64 v.c.sz, .int .i64 v.c.sw.size, .int .i64 v.c.sw.left, .int .i64 v.c.sw.held, .int .i64 v.c.rw.size, .int .i64 v.c.rw.left, .int .i64 v.c.rw.held, .slice v.x v.kv.length v.xc, .slice v.o v.c.ou.length v.oc, .slice v.p v.c.pg.length v.pc, .bool v.c.cl], .agg #[.int .i64 u.k.st.id, .int .i64 u.k.st.side, .int .i64 u.k.st.shape, .int .i64 u.k.st.sent, .int .i64 u.k.st.got, .bool u.k.st.se, .bool u.k.st.ge, .bool u.k.st.done, .int .i64 u.k.st.code, .string u.k.st.text, .int .i64 u.k.st.snd.size, .int .i64 u.k.st.snd.left, .int .i64 u.k.st.snd.held, .int .i64 u.k.st.rcv.size, .int .i64 u.k.st.rcv.left, .int .i64 u.k.st.rcv.held, .string u.k.sv, .string u.k.mt, .int .i64 u.k.lt, .slice u.m u.k.ms.length u.mc, .slice u.i u.k.ib.length u.ic, .slice u.o u.k.ob.length u.oc]] w fun e w' => e = .returned (.bool (gS v.c u.k)) ∧ Below w.heap.size w w' := by
  refine aI Tryz.func33 rfl Tryz.ntmps33 J J ?_
  obtain ⟨hM, hI, hO⟩ := hK
  obtain ⟨hs1, hs2, hs3⟩ := hs
  obtain ⟨bv, hbv⟩ : ∃ x, cn u.k.st = x := ⟨_, rfl⟩
  obtain ⟨eh, heh⟩ : ∃ x, bd u.k.hd = x := ⟨_, rfl⟩
  obtain ⟨r, hr⟩ : ∃ x, dH u.k.ob u.k.st = x := ⟨_, rfl⟩
  obtain ⟨n, hn⟩ : ∃ x, ce u.k.ib = x := ⟨_, rfl⟩
  obtain ⟨bf, hbf⟩ : ∃ x, iX v.c u.k = x := ⟨_, rfl⟩
  refine ah ?_
  refine aa ?_
  (refine aW J J J J J J ?_; intro g2)
  (refine aW J J J J J J ?_; intro g3)
  repeat' (first | refine ah ?_ | refine aa ?_ | refine ab ?_ | refine ae ?_ | (refine aN af J J J J J J ?_; intro g5) | ((refine' am rfl ?_ J J ?_); rotate_left; first | exact ai af J J J J | exact ap af J J J J J J | exact bH J J J J J | exact ag af 0 J J J J J | exact ag af 1 J J J J J | exact ag af 2 J J J J J) | refine aH rfl (av J J J J ⟨J, trivial⟩ rfl (by kernel_rfl)) (fun w hm => wU u.k.hd u.m u.mc eh heh w (hM.below hm.below) hhz) J J ?_ | refine aH rfl (av J J J J ⟨J, trivial⟩ rfl (by kernel_rfl)) (fun w hm => wV u.k.st bv hbv w htx) J J ?_ | refine aq af 0 J J J J J J J J J J J J ?_)
  cases h1 : xl v.c u.k with
  | true =>
    refine aF rfl (by have h2 := h1; unfold xl at h2; rw [hbv, heh] at h2; exact h2) ?_
    repeat' (first | refine ah ?_ | refine aa ?_ | refine ab ?_ | refine az ?_ | refine ak ?_ | refine ae ?_ | ((refine' am rfl ?_ J J ?_); rotate_left; exact ai af J J J J))
    refine ay af (fun _ => 0) J J trivial rfl fun w hm => ⟨?_, hm.below⟩
    unfold gS; rw [h1]; rfl
  | false =>
  refine au rfl (by have h2 := h1; unfold xl at h2; rw [hbv, heh] at h2; exact h2) ?_
  have hv1 : gS v.c u.k = if u.k.ib.all (fun m => decide (m.size ≤ 16384)) then (if u.k.st.done then decide (u.k.ob.length = 0) else if u.k.ob.all qh then decide (r.err = 0) && decide (n ≤ u.k.st.rcv.held) && !bf else false) else false := by unfold gS; rw [h1, hr, hn, hbf]; rfl
  repeat' (first | refine ah ?_ | refine aa ?_ | refine ab ?_ | refine ar ?_ | refine aK ?_ | refine ae ?_ | ((refine' am rfl ?_ J J ?_); rotate_left; exact ai af J J J J))
  refine bu (σ := Nat) (fun j => j ≤ u.k.ib.length ∧ u.k.ib.all (fun m => decide (m.size ≤ 16384)) = (u.k.ib.drop j).all (fun m => decide (m.size ≤ 16384))) (fun j => [(8, [], .int .i64 ((j : Nat) : Int)), (2, [], .pointer (some ⟨g2, 0, none⟩)), (3, [], .pointer (some ⟨g3, 0, none⟩)), (5, [], .pointer (some ⟨g5, 0, none⟩))]) (fun _ => [.cl g5 33 (tC u.k.st), .cl g3 39 [.int .i64 u.k.st.id, .int .i64 u.k.st.side, .int .i64 u.k.st.shape, .int .i64 u.k.st.sent, .int .i64 u.k.st.got, .bool u.k.st.se, .bool u.k.st.ge, .bool u.k.st.done, .int .i64 u.k.st.code, .string u.k.st.text, .int .i64 u.k.st.snd.size, .int .i64 u.k.st.snd.left, .int .i64 u.k.st.snd.held, .int .i64 u.k.st.rcv.size, .int .i64 u.k.st.rcv.left, .int .i64 u.k.st.rcv.held, .string u.k.sv, .string u.k.mt, .int .i64 u.k.lt, .slice u.m u.k.ms.length u.mc, .slice u.i u.k.ib.length u.ic, .slice u.o u.k.ob.length u.oc], .cl g2 28 [.int .i64 v.c.sd, .int .i64 v.c.nx, .int .i64 v.c.la, .int .i64 v.c.aw, .int .i64 v.c.sz, .int .i64 v.c.sw.size, .int .i64 v.c.sw.left, .int .i64 v.c.sw.held, .int .i64 v.c.rw.size, .int .i64 v.c.rw.left, .int .i64 v.c.rw.held, .slice v.x v.kv.length v.xc, .slice v.o v.c.ou.length v.oc, .slice v.p v.c.pg.length v.pc, .bool v.c.cl]]) (fun j => u.k.ib.length - j) 0 [true, true, true] ⟨Nat.zero_le _, rfl⟩ ⟨J, J, J, J, trivial⟩ rfl ?_
  rintro j ⟨hj0, hw⟩
  by_cases hj : j < u.k.ib.length
  · obtain ⟨s, hs⟩ : ∃ s, u.k.ib[j]? = some s := ⟨u.k.ib[j], List.getElem?_eq_getElem hj⟩
    obtain ⟨bb, off, hx, _, _, hrows⟩ := hI (by omega)
    have hrow : w.rangeAt bb (off + j * 1) (sC s) := hrows j s hs
    rw [cz hs, List.all_cons] at hw
    repeat' (first | refine ah ?_ | refine aa ?_ | refine ab ?_ | refine ae ?_ | ((refine' am rfl ?_ J J ?_); rotate_left; first | exact ai af J J J J | exact ap af J J J J J J | exact ag af 1 J J J J J | exact aV af J J J J J J J))
    refine aF rfl (by simp; omega) ?_
    repeat' (first | refine ah ?_ | refine aa ?_ | refine ab ?_ | refine ar ?_ | refine aK ?_ | refine ae ?_ | ((refine' am rfl ?_ J J ?_); rotate_left; first | exact bM af (m := 1) j rfl hx J J J J J J J (fun _ => rfl) (fun _ => hj) | exact b8 af (v := .string s) J J J J J (fun _ => hrow 0 _ rfl) | exact ai af J J J J | exact ap af J J J J J J | exact ag af 1 J J J J J | exact aV af J J J J J J J))
    by_cases hk : s.size ≤ 16384
    · rw [decide_eq_true hk, Bool.true_and] at hw
      refine au rfl (by simp; omega) ?_
      repeat' (first | refine aa ?_ | refine ab ?_ | refine ar ?_ | refine aE ?_ | refine ae ?_ | ((refine' am rfl ?_ J J ?_); rotate_left; first | exact bz J J J J J (by omega) | exact ai af J J J J))
      refine a8 (j + 1) [true, true, true] ⟨hj, hw⟩ (show u.k.ib.length - (j + 1) < u.k.ib.length - j by omega) ⟨J, J, J, J, trivial⟩ rfl
    · rw [decide_eq_false hk, Bool.false_and] at hw
      refine aF rfl (by simp; omega) ?_
      repeat' (first | refine ah ?_ | refine aa ?_ | refine ab ?_ | refine az ?_ | refine ak ?_ | refine a7 ?_ | refine ae ?_ | ((refine' am rfl ?_ J J ?_); rotate_left; exact ai af J J J J))
      refine ay af (fun _ => 0) J J trivial rfl fun w hm => ⟨?_, hm.below⟩
      rw [hv1, hw]; rfl
  rw [List.drop_eq_nil_of_le (by omega), List.all_nil] at hw
  rw [hw, if_pos rfl] at hv1
  repeat' (first | refine ah ?_ | refine aa ?_ | refine ab ?_ | refine ae ?_ | ((refine' am rfl ?_ J J ?_); rotate_left; first | exact ai af J J J J | exact ap af J J J J J J | exact ag af 1 J J J J J | exact aV af J J J J J J J))
  refine au rfl (by simp; omega) ?_
  repeat' (first | refine ah ?_ | refine aa ?_ | refine ab ?_ | refine bj ?_ | refine aO ?_ | refine aU ?_ | refine ae ?_ | ((refine' am rfl ?_ J J ?_); rotate_left; first | exact ai af J J J J | exact ag af 0 J J J J J))
  by_cases hd : u.k.st.done = true
  · refine aF rfl hd ?_
    repeat' (first | refine ah ?_ | refine aa ?_ | refine ab ?_ | refine az ?_ | refine ak ?_ | refine ae ?_ | ((refine' am rfl ?_ J J ?_); rotate_left; first | exact ai af J J J J | exact ap af J J J J J J | exact ag af 1 J J J J J | exact aV af J J J J J J J))
    refine ay af (fun _ => 0) J J trivial rfl fun w hm => ⟨?_, hm.below⟩
    rw [hv1, if_pos hd, show ((((u.k.ob.length : Nat) : Int) == 0) = decide (u.k.ob.length = 0)) by rw [Bool.eq_iff_iff]; simp]
  rw [if_neg hd] at hv1
  refine au rfl (eq_false_of_ne_true hd) ?_
  repeat' (first | refine ah ?_ | refine aa ?_ | refine ab ?_ | refine ar ?_ | refine aK ?_ | refine ae ?_ | ((refine' am rfl ?_ J J ?_); rotate_left; exact ai af J J J J))
  refine bu (σ := Nat) (fun j => j ≤ u.k.ob.length ∧ u.k.ob.all qh = (u.k.ob.drop j).all qh) (fun j => [(9, [], .int .i64 ((j : Nat) : Int)), (2, [], .pointer (some ⟨g2, 0, none⟩)), (3, [], .pointer (some ⟨g3, 0, none⟩)), (5, [], .pointer (some ⟨g5, 0, none⟩))]) (fun _ => [.cl g5 33 (tC u.k.st), .cl g3 39 [.int .i64 u.k.st.id, .int .i64 u.k.st.side, .int .i64 u.k.st.shape, .int .i64 u.k.st.sent, .int .i64 u.k.st.got, .bool u.k.st.se, .bool u.k.st.ge, .bool u.k.st.done, .int .i64 u.k.st.code, .string u.k.st.text, .int .i64 u.k.st.snd.size, .int .i64 u.k.st.snd.left, .int .i64 u.k.st.snd.held, .int .i64 u.k.st.rcv.size, .int .i64 u.k.st.rcv.left, .int .i64 u.k.st.rcv.held, .string u.k.sv, .string u.k.mt, .int .i64 u.k.lt, .slice u.m u.k.ms.length u.mc, .slice u.i u.k.ib.length u.ic, .slice u.o u.k.ob.length u.oc], .cl g2 28 [.int .i64 v.c.sd, .int .i64 v.c.nx, .int .i64 v.c.la, .int .i64 v.c.aw, .int .i64 v.c.sz, .int .i64 v.c.sw.size, .int .i64 v.c.sw.left, .int .i64 v.c.sw.held, .int .i64 v.c.rw.size, .int .i64 v.c.rw.left, .int .i64 v.c.rw.held, .slice v.x v.kv.length v.xc, .slice v.o v.c.ou.length v.oc, .slice v.p v.c.pg.length v.pc, .bool v.c.cl]]) (fun j => u.k.ob.length - j) 0 [true, true, true] ⟨Nat.zero_le _, rfl⟩ ⟨J, J, J, J, trivial⟩ rfl ?_
  clear hw hj0 hj
  rintro j ⟨hj0, hw⟩
  by_cases hj : j < u.k.ob.length
  · obtain ⟨f, hs⟩ : ∃ s, u.k.ob[j]? = some s := ⟨u.k.ob[j], List.getElem?_eq_getElem hj⟩
    obtain ⟨bb, off, hx, _, _, hrows⟩ := hO (by omega)
    have hrow : w.rangeAt bb (off + j * 4) (fC f) := hrows j f hs
    rw [cz hs, List.all_cons] at hw
    repeat' (first | refine ah ?_ | refine aa ?_ | refine ab ?_ | refine ae ?_ | ((refine' am rfl ?_ J J ?_); rotate_left; first | exact ai af J J J J | exact ap af J J J J J J | exact ag af 1 J J J J J | exact aV af J J J J J J J))
    refine aF rfl (by simp; omega) ?_
    repeat' (first | refine ah ?_ | refine aa ?_ | refine ab ?_ | refine ar ?_ | refine aK ?_ | refine ae ?_ | ((refine' am rfl ?_ J J ?_); rotate_left; first | exact bM af (m := 4) j rfl hx J J J J J J J (fun _ => rfl) (fun _ => hj) | exact b8 af (v := .int .i64 f.kind) J J J J J (fun _ => hrow 0 _ rfl) | exact ai af J J J J | exact ap af J J J J J J | exact bJ J J J J J | exact ag af 1 J J J J J))
    by_cases hk : f.kind = 2 ∨ f.kind = 3 ∨ f.kind = 4
    · have hkb : qh f = true := by unfold qh; simp; omega
      rw [hkb, Bool.true_and] at hw
      refine au rfl (by simp; omega) ?_
      repeat' (first | refine aa ?_ | refine ab ?_ | refine ar ?_ | refine aE ?_ | refine ae ?_ | ((refine' am rfl ?_ J J ?_); rotate_left; first | exact bz J J J J J (by omega) | exact ai af J J J J))
      refine a8 (j + 1) [true, true, true] ⟨hj, hw⟩ (show u.k.ob.length - (j + 1) < u.k.ob.length - j by omega) ⟨J, J, J, J, trivial⟩ rfl
    · have hkb : qh f = false := by unfold qh; simp; omega
      rw [hkb, Bool.false_and] at hw
      refine aF rfl (by simp; omega) ?_
      repeat' (first | refine ah ?_ | refine aa ?_ | refine ab ?_ | refine az ?_ | refine ak ?_ | refine a7 ?_ | refine ae ?_ | ((refine' am rfl ?_ J J ?_); rotate_left; exact ai af J J J J))
      refine ay af (fun _ => 0) J J trivial rfl fun w hm => ⟨?_, hm.below⟩
      rw [hv1, hw]; rfl
  rw [List.drop_eq_nil_of_le (by omega), List.all_nil] at hw
  rw [hw, if_pos rfl] at hv1
  repeat' (first | refine ah ?_ | refine aa ?_ | refine ab ?_ | refine ae ?_ | ((refine' am rfl ?_ J J ?_); rotate_left; first | exact ai af J J J J | exact ap af J J J J J J | exact ag af 1 J J J J J | exact aV af J J J J J J J))
  refine au rfl (by simp; omega) ?_
  repeat' (first | refine ah ?_ | refine aa ?_ | refine ab ?_ | refine az ?_ | refine bj ?_ | refine aO ?_ | refine aU ?_ | refine aX aQ rfl (by kernel_rfl) ?_ | refine ae ?_ | refine bG ?_ | (refine aN af J J J J J J ?_; intro g11) | ((first | refine' am rfl ?_ J J ?_ | refine' dD rfl ?_ J J J ?_); rotate_left; first | exact ai af J J J J | exact ap af J J J J J J | exact bJ J J J J J | exact ag af 1 J J J J J | exact ag af 2 J J J J J | exact ag af 3 J J J J J) | refine aH rfl (av J J J J ⟨J, trivial⟩ rfl (by kernel_rfl)) (fun w hm => ym u r hr w (hO.below hm.below) hs3 htx hfd) J J ?_ | refine bk rfl (av J J J J ⟨J, trivial⟩ rfl (by kernel_rfl)) rfl (fun w hm => yn u n hn w (hI.below hm.below) hub hs2) J J ?_ | refine bk rfl (av J J J J ⟨J, J, trivial⟩ rfl (by kernel_rfl)) rfl (fun w hm => wW v u bf hbf w (hO.below hm.below)) J J ?_ | refine aq af 0 J J J J J J J J J J J J ?_)
  refine ay af (fun _ => 0) J J trivial rfl fun w hm => ⟨?_, hm.below⟩
  rw [hv1]
end Go.Proofs.YthiocbcokfondaaGreatDoor.Y
