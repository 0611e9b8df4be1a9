import Derived.Test.YthiocbcokfondaaGreatDoorJBunT
import Derived.Test.YthiocbcokfondaaGreatDoorJBunC10
import Derived.Test.YthiocbcokfondaaGreatDoorJBunI
set_option maxRecDepth 100000
set_option maxHeartbeats 32000000
namespace Go.Proofs.YthiocbcokfondaaGreatDoor.Y
section
open Go.RowKit
theorem qC(s:bZ)(f:aS)(r:xN)(h:aZ s f=r)(w:World)(htx:s.text.size≤4611686018427387900)(hfd:f.data.size<4294967281):Calls Tryz.prog 116 #[.agg ⟨tC s⟩,.agg #[.int .i64 f.kind,.int .i64 f.strm,.int .i64 f.num,.string f.data]] w fun e w'=>e= .returned (.tuple #[.agg ⟨tC r.st⟩,.int .i64 r.err])∧Below w.heap.size w w':=by
 subst h
 exact zh s.id s.side s.shape s.sent s.got s.se s.ge s.done s.code s.text s.snd.size s.snd.left s.snd.held s.rcv.size s.rcv.left s.rcv.held f.kind f.strm f.num f.data w htx hfd
def qD(c:NL)(k:KR):Bool:=match k.ob with
 | []=>false
 |f::_=>f.kind !=2||(decide (aG f.data≤k.st.snd.left) &&decide (aG f.data≤c.sw.left))
attribute [local irreducible] Calls
theorem zy(s:bZ)(w:World):Calls Tryz.prog 153 #[.agg ⟨tC s⟩] w fun e w'=>e= .returned (.agg ⟨tC (fA s)⟩)∧Below w.heap.size w w':=by
 refine ai Tryz.func153 rfl Tryz.ntmps153 J J ?_
 repeat' (first|(refine bx ?_;intro g)|(refine al ?_;intro g)|refine nx ?_)
 (refine rt ?_;refine fun w1 hm=>⟨rfl,hm.below⟩)
theorem B9(s t:bZ)(h:fA s=t)(w:World):Calls Tryz.prog 153 #[.agg ⟨tC s⟩] w fun e w'=>e= .returned (.agg ⟨tC t⟩)∧Below w.heap.size w w':=by
 subst h
 exact zy s w
theorem zz{A:Nat→Prop}(u:KV)(w:World)(hO:Rws A w 4 fC u.o u.k.ob)(hzo:u.k.ob.length≤3518437208883)(htx:u.k.st.text.size≤4611686018427387900)(hfd:∀f∈u.k.ob,f.data.size<4294967281):Calls Tryz.prog 81 #[.agg ⟨KC u⟩] w fun e w'=>e= .returned (.tuple #[.agg ⟨tC (cQ u.k.ob u.k.st).st⟩,.bool (decide ((cQ u.k.ob u.k.st).err=0))])∧Below w.heap.size w w':=by
 refine ai Tryz.func81 rfl Tryz.ntmps81 J J ?_
 refine aD ?_
 refine ap ?_
 (refine bx ?_;intro g1)
 (refine al ?_;intro g2)
 repeat' (first|(refine al ?_;intro g4)|refine cl (fun w hm=>B9 u.k.st (fA u.k.st) rfl w) ?_|refine nx ?_)
 refine bT (σ:=Nat×bZ) (fun p=>p.1≤u.k.ob.length∧p.2.text.size≤4611686018427387900∧cQ u.k.ob u.k.st=cQ (u.k.ob.drop p.1) p.2) (fun p=>[(5,[],.int .i64 ((p.1:Nat):Int)),(1,[],.pointer (some ⟨g1,0,none⟩)),(4,[],.pointer (some ⟨g4,0,none⟩)),(2,[],.pointer (some ⟨g2,0,none⟩))]) (fun p=>[.cl g4 33 (tC (fA p.2)),.cl g2 33 [.int .i64 0,.int .i64 0,.int .i64 0,.int .i64 0,.int .i64 0,.bool false,.bool false,.bool false,.int .i64 0,.string ⟨#[]⟩,.int .i64 0,.int .i64 0,.int .i64 0,.int .i64 0,.int .i64 0,.int .i64 0],.cl g1 39 [.int .i64 u.k.st.id,.int .i64 u.k.st.side,.int .i64 u.k.st.shape,.int .i64 u.k.st.sent,.int .i64 u.k.st.got,.bool u.k.st.se,.bool u.k.st.ge,.bool u.k.st.done,.int .i64 u.k.st.code,.string u.k.st.text,.int .i64 u.k.st.snd.size,.int .i64 u.k.st.snd.left,.int .i64 u.k.st.snd.held,.int .i64 u.k.st.rcv.size,.int .i64 u.k.st.rcv.left,.int .i64 u.k.st.rcv.held,.string u.k.sv,.string u.k.mt,.int .i64 u.k.lt,.slice u.m u.k.ms.length u.mc,.slice u.i u.k.ib.length u.ic,.slice u.o u.k.ob.length u.oc]]) (fun p=>u.k.ob.length-p.1) (0,u.k.st) [true,true,true] ⟨Nat.zero_le _,htx,rfl⟩ ⟨J,J,J,J,trivial⟩ rfl ?_
 rintro⟨j,s⟩ ⟨hj0,hs0,hr⟩
 dsimp only at hj0 hs0 hr ⊢
 by_cases hj:j<u.k.ob.length
 · obtain⟨f,hf⟩:∃f,u.k.ob[j]? =some f:=⟨u.k.ob[j],List.getElem?_eq_getElem hj⟩
   obtain⟨bb,off,hx,_,_,hrows⟩:=hO (by omega)
   have hrow:w.rangeAt bb (off+j * 4) (fC f):=hrows j f hf
   have hfd0:=hfd f (List.mem_of_getElem? hf)
   obtain⟨r,hr0⟩:∃r,aZ (fA s) f=r:=⟨_,rfl⟩
   have hrt:r.st.text.size≤4611686018427387900:=by rw[←hr0];exact kY hs0 hfd0
   rw[eQ hf,cQ,hr0]at hr
   repeat' refine nx ?_
   refine af rfl (by simp;omega) ?_
   repeat' (first|refine vx rfl (dF ae (m:=4) j rfl hx J J J J J J J (fun _=>rfl) (fun _=>hj)) ?_|refine vx rfl (rj (cs:=fC f) hrow) ?_|refine aF ak rfl (by kernel_rfl) ?_|(refine bO ?_;intro g)|((refine' cB rfl ?_ J J J ?_);rotate_left;first|exact dF ae (m:=4) j rfl hx J J J J J J J (fun _=>rfl) (fun _=>hj)|exact cO ae (cs:=fC f) J J J J J (fun _=>hrow)|exact ax ae J J J J|exact aM ae J J J J J J|exact ab ae 0 J J J J J|exact ab ae 2 J J J J J)|refine aU rfl (ag J J J J ⟨J,J,trivial⟩ rfl (by kernel_rfl)) rfl (fun w hm=>qC (fA s) f r hr0 w hs0 hfd0) J J ?_|refine cg ae J J J J J J ?_|refine nx ?_)
   by_cases he:r.err=0
   · rw[if_neg (by simpa using he)]at hr
     refine aa rfl (by simpa using he) ?_
     repeat' (first|refine vx rfl (bm J J J J J (by omega)) ?_|refine cl (fun w hm=>B9 r.st (fA r.st) rfl w) ?_|refine dx ?_)
     refine aY (j+1,r.st) [false,true,true,true] ⟨hj,hrt,hr⟩ (show u.k.ob.length - (j+1)<u.k.ob.length-j by omega) ⟨J,J,J,J,trivial⟩ rfl
   · rw[if_pos (by simpa using he)]at hr
     refine af rfl (by simpa using he) ?_
     repeat' refine nx ?_
     (refine rt ?_;refine fun w1 hm=>⟨?_,hm.below⟩)
     rw[hr,decide_eq_false (show¬ (⟨fA s,r.err⟩:xN).err=0 from he)]
     rfl
 · rw[List.drop_eq_nil_of_le (by omega),cQ]at hr
   repeat' refine nx ?_
   refine aa rfl (by simp;omega) ?_
   repeat' refine nx ?_
   (refine rt ?_;refine fun w1 hm=>⟨?_,hm.below⟩)
   rw[hr]
   rfl
theorem zA{A:Nat→Prop}(v:NV)(u:KV)(w:World)(hO:Rws A w 4 fC u.o u.k.ob):Calls Tryz.prog 83 #[.agg ⟨NC v⟩,.agg ⟨KC u⟩] w fun e w'=>e= .returned (.bool (qD v.c u.k))∧Below w.heap.size w w':=by
 refine ai Tryz.func83 rfl Tryz.ntmps83 J J ?_
 repeat' (first|(refine bx ?_;intro g)|refine nx ?_)
 by_cases h0:u.k.ob=[]
 · refine af rfl (by rw[h0];rfl) ?_
   repeat' refine nx ?_
   (refine rt ?_;refine fun w hm=>⟨?_,hm.below⟩)
   unfold qD;rw[h0]
 obtain⟨f,r,hfr⟩:∃f r,u.k.ob=f::r:=by cases h:u.k.ob with|nil=>exact absurd h h0|cons f r=>exact⟨f,r,rfl⟩
 have hj:0<u.k.ob.length:=by rw[hfr];exact Nat.succ_pos _
 obtain⟨bb,off,hx,_,_,hrows⟩:=hO hj
 have hrow:w.rangeAt bb (off+0 * 4) (fC f):=hrows 0 f (by rw[hfr];rfl)
 refine aa rfl (by rw[hfr];simp;omega) ?_
 repeat' (first|refine vx rfl (dF ae (m:=4) 0 rfl hx J J J J J J J (fun _=>rfl) (fun _=>hj)) ?_|refine vx rfl (rj (cs:=fC f) hrow) ?_|(refine al ?_;intro g5)|refine cl (fun w hm=>jN f.data w) ?_|refine nx ?_)
 (refine rt ?_;refine fun w hm=>⟨?_,hm.below⟩)
 unfold qD;rw[hfr]
end
section
open Go.RowKit
theorem Fb{A:Nat→Prop}(h:io)(x:Option Addr)(c:Nat)(e:Int)(he:bG h=e)(w:World)(hm:Rws A w 2 mC x h.metas)(hz:fK h):Calls Tryz.prog 79 #[.agg ⟨[.string h.svc,.string h.mth,.int .i64 h.late,.slice x h.metas.length c]⟩] w fun r w'=>r= .returned (.tuple ⟨[.string (oQ h),.int .i64 e]⟩)∧Below w.heap.size w w':=by
 have h1:=rU h (.slice x h.metas.length c) w (Ev hm c) hz
 rw[sS,he]at h1
 exact h1
attribute [local irreducible] Calls
theorem Gs{A:Nat→Prop}(u:KV)(r:xN)(h:cQ u.k.ob u.k.st=r)(w:World)(hO:Rws A w 4 fC u.o u.k.ob)(hzo:u.k.ob.length≤3518437208883)(htx:u.k.st.text.size≤4611686018427387900)(hfd:∀f∈u.k.ob,f.data.size<4294967281):Calls Tryz.prog 81 #[.agg ⟨KC u⟩] w fun e w'=>e= .returned (.tuple #[.agg ⟨tC r.st⟩,.bool (decide (r.err=0))])∧Below w.heap.size w w':=by
 subst h
 exact zz u w hO hzo htx hfd
theorem Fc{A:Nat→Prop}(v:NV)(u:KV)(b:Bool)(h:qD v.c u.k=b)(w:World)(hO:Rws A w 4 fC u.o u.k.ob):Calls Tryz.prog 83 #[.agg ⟨NC v⟩,.agg ⟨KC u⟩] w fun e w'=>e= .returned (.bool b)∧Below w.heap.size w w':=by
 subst h
 exact zA v u w hO
theorem EA(u:KV)(n:Int)(h:aT u.k.ib=n){A:Nat→Prop}(w:World)(hI:Rws A w 1 sC u.i u.k.ib)(hub:aT u.k.ib≤4611686018427387904)(hzi:u.k.ib.length≤8796093022208):Calls Tryz.prog 82 #[.agg ⟨KC u⟩] w fun e w'=>e= .returned (.int .i64 n)∧Below w.heap.size w w':=by
 subst h
 exact sL u w hI hub hzi
end
end Go.Proofs.YthiocbcokfondaaGreatDoor.Y
