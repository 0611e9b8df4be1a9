import Derived.Test.YthiocbcokfondaaGreatDoorJBunT
import Derived.Test.YthiocbcokfondaaGreatDoorJBunC9
set_option maxRecDepth 100000
set_option maxHeartbeats 32000000
namespace Go.Proofs.YthiocbcokfondaaGreatDoor.Y
section
open Go.RowKit
attribute [local irreducible] Calls
theorem B4(v:NV)(w:World):Calls Tryz.prog 27 #[.agg ⟨NC v⟩] w fun e w'=>e= .returned (.bool (oR v.c))∧Below w.heap.size w w':=by
 refine ai Tryz.func27 rfl Tryz.ntmps27 J J ?_
 repeat' (first|refine cl (fun w hm=>gz ⟨_,_,_⟩ w) ?_|(refine bx ?_;intro g)|refine bI rfl (fun h=> ?_) (fun h=> ?_)|refine nx ?_)
 all_goals
  (refine rt ?_;refine fun w hm=>⟨?_,hm.below⟩)
  refine congrArg (fun b=>Ending.returned (Value.bool b)) ?_
  clear hm
  have w1:=fun h=>IntWalk.i64_in (v.c.la+1) h
  unfold oR
  generalize bi v.c.sw=b1 at *
  generalize bi v.c.rw=b2 at *
  grind
theorem Hm(u:KV)(n:Int)(h:aT u.k.ib=n){A:Nat→Prop}(w:World)(hI:Rws A w 1 sC u.i u.k.ib)(hub:aT u.k.ib≤4611686018427387904)(hzi:u.k.ib.length≤8796093022208):Calls Tryz.prog 78 #[.agg ⟨KC u⟩] w fun e w'=>e= .returned (.int .i64 n)∧Below w.heap.size w w':=by
 subst h
 exact qu u w hI hub hzi
theorem B5{c:NL}{s:bZ}{f:aS}{r:List aS}{b:Bool}:fB c (f::r) b s=((f.kind==2||f.kind==3||f.kind==4) && !(b&& (f.kind !=2||(decide (aG f.data≤s.snd.left) &&decide (aG f.data≤c.sw.left)))) &&fB c r false s):=rfl
theorem B6{A:Nat→Prop}(v:NV)(u:KV)(w:World)(hO:Rws A w 4 fC u.o u.k.ob)(hI:Rws A w 1 sC u.i u.k.ib)(hub:aT u.k.ib≤4611686018427387904)(hzi:u.k.ib.length≤8796093022208)(hzo:u.k.ob.length≤3518437208883)(htx:u.k.st.text.size≤4611686018427387900)(hfd:∀f∈u.k.ob,f.data.size<4294967281)(hg:MLen w):Calls Tryz.prog 72 #[.agg ⟨NC v⟩,.agg ⟨KC u⟩] w fun e w'=>e= .returned (.bool (decide (aT u.k.ib≤u.k.st.rcv.held) &&decide ((cQ u.k.ob u.k.st).err=0) &&fB v.c u.k.ob true u.k.st))∧Below w.heap.size w w':=by
 refine ai Tryz.func72 rfl Tryz.ntmps72 J J ?_
 obtain⟨n,hn⟩:∃n,aT u.k.ib=n:=⟨_,rfl⟩
 obtain⟨r,hr⟩:∃r,cQ u.k.ob u.k.st=r:=⟨_,rfl⟩
 rw[hn,hr]
 refine aD ?_
 refine ap ?_
 (refine bx ?_;intro g2)
 (refine bx ?_;intro g3)
 repeat' (first|refine aF ak rfl (by kernel_rfl) ?_|refine bD ?_|((refine' cB rfl ?_ J J J ?_);rotate_left;first|exact ax ae J J J J|exact aM ae J J J J J J|exact ab ae 0 J J J J J)|refine aU rfl (ag J J J J ⟨J,trivial⟩ rfl (by kernel_rfl)) rfl (fun w hm=>Hm u n hn w (hI.below hm.below) hub hzi) J J ?_|refine nx ?_)
 by_cases h1:n≤u.k.st.rcv.held
 rotate_left
 · refine af rfl (by simp;omega) ?_
   repeat' refine nx ?_
   (refine rt ?_;refine fun w hm=>⟨?_,hm.below⟩)
   simp[h1]
 refine aa rfl (by simp;omega) ?_
 repeat' (first|(refine al ?_;intro g5)|refine cl (fun w hm=>DM u r hr w (hO.below hm.below) hzo htx hfd (hg.below hm.below)) ?_|refine nx ?_)
 by_cases h2:r.err=0
 rotate_left
 · refine af rfl (by simpa using h2) ?_
   repeat' refine nx ?_
   (refine rt ?_;refine fun w hm=>⟨?_,hm.below⟩)
   simp[h2]
 refine aa rfl (by simpa using h2) ?_
 repeat' refine nx ?_
 refine bT (σ:=Nat) (fun j=>j≤u.k.ob.length∧fB v.c u.k.ob true u.k.st=fB v.c (u.k.ob.drop j) (j==0) u.k.st) (fun j=>[(27,[],.int .i64 ((j:Nat):Int)),(26,[],.int .i64 ((u.k.ob.length:Nat):Int)),(25,[],.slice u.o u.k.ob.length u.oc),(2,[],.pointer (some ⟨g2,0,none⟩)),(3,[],.pointer (some ⟨g3,0,none⟩))]) (fun _=>[.cl g3 39 [.int .i64 u.k.st.id,.int .i64 u.k.st.side,.int .i64 u.k.st.shape,.int .i64 u.k.st.sent,.int .i64 u.k.st.got,.bool u.k.st.se,.bool u.k.st.ge,.bool u.k.st.done,.int .i64 u.k.st.code,.string u.k.st.text,.int .i64 u.k.st.snd.size,.int .i64 u.k.st.snd.left,.int .i64 u.k.st.snd.held,.int .i64 u.k.st.rcv.size,.int .i64 u.k.st.rcv.left,.int .i64 u.k.st.rcv.held,.string u.k.sv,.string u.k.mt,.int .i64 u.k.lt,.slice u.m u.k.ms.length u.mc,.slice u.i u.k.ib.length u.ic,.slice u.o u.k.ob.length u.oc],.cl g2 28 [.int .i64 v.c.sd,.int .i64 v.c.nx,.int .i64 v.c.la,.int .i64 v.c.aw,.int .i64 v.c.sz,.int .i64 v.c.sw.size,.int .i64 v.c.sw.left,.int .i64 v.c.sw.held,.int .i64 v.c.rw.size,.int .i64 v.c.rw.left,.int .i64 v.c.rw.held,.slice v.x v.kv.length v.xc,.slice v.o v.c.ou.length v.oc,.slice v.p v.c.pg.length v.pc,.bool v.c.cl]]) (fun j=>u.k.ob.length-j) 0 [false,true,true] ⟨Nat.zero_le _,rfl⟩ ⟨J,J,J,J,J,trivial⟩ rfl ?_
 rintro j ⟨hj0,hw⟩
 by_cases hj:j<u.k.ob.length
 · obtain⟨f,hf⟩:∃f,u.k.ob[j]? =some f:=⟨u.k.ob[j],List.getElem?_eq_getElem hj⟩
   obtain⟨bb,off,hx,_,_,hrows⟩:=hO (by omega)
   have hrow:w.rangeAt bb (off+j * 4) (fC f):=hrows j f hf
   rw[eQ hf,B5]at hw
   try unfold NC
   rw[hx]
   repeat' refine nx ?_
   refine af rfl (by simp;omega) ?_
   repeat' (first|refine vx rfl (ia (m:=4) j hj) ?_|refine vx rfl (rj (cs:=fC f) hrow) ?_|(refine al ?_;intro g8)|refine nx ?_)
   by_cases hk:f.kind=2∨f.kind=3∨f.kind=4
   rotate_left
   · refine af rfl (by simp;omega) ?_
     repeat' refine nx ?_
     (refine rt ?_;refine fun w hm=>⟨?_,hm.below⟩)
     have hkb:(f.kind==2||f.kind==3||f.kind==4)=false:=by simp;omega
     rw[hw,hkb]
     simp
   have hkb:(f.kind==2||f.kind==3||f.kind==4)=true:=by simp;omega
   have hj0b:(((j:Nat):Int)==0)=(j==0):=by rw[Bool.eq_iff_iff];simp
   rw[hkb,Bool.true_and]at hw
   refine aa rfl (by simp;omega) ?_
   repeat' (first|refine cl (fun w hm=>iO f.data w) ?_|refine nx ?_)
   by_cases hb:((j==0) && (f.kind !=2||(decide (aG f.data≤u.k.st.snd.left) &&decide (aG f.data≤v.c.sw.left))))=true
   · refine af rfl (by rw[hj0b];exact hb) ?_
     repeat' refine nx ?_
     (refine rt ?_;refine fun w hm=>⟨?_,hm.below⟩)
     rw[hw,hb]
     simp
   · have hb':=eq_false_of_ne_true hb
     rw[hb',Bool.not_false,Bool.true_and]at hw
     refine aa rfl (by rw[hj0b];exact hb') ?_
     repeat' (first|refine vx rfl (bm J J J J J (by omega)) ?_|refine dx ?_)
     rw[←hx]
     refine aY (j+1) [false,true,true] ⟨hj,by rw[hw];rfl⟩ (show u.k.ob.length - (j+1)<u.k.ob.length-j by omega) ⟨J,J,J,J,J,trivial⟩ rfl
 · rw[List.drop_eq_nil_of_le (by omega)]at hw
   repeat' refine nx ?_
   refine aa rfl (by simp;omega) ?_
   repeat' refine nx ?_
   (refine rt ?_;refine fun w hm=>⟨?_,hm.below⟩)
   rw[hw]
   simp[h1,h2,fB]
theorem Gp(bv:Bool)(a b c d e f:Int):(!bv||a !=b||c !=d||e !=d||f !=0)= !(bv&&decide (a=b) &&decide (c=d) &&decide (e=d) &&decide (f=0)):=by
 cases bv<;>by_cases h1:a=b<;>by_cases h2:c=d<;>by_cases h3:e=d<;>by_cases h4:f=0<;>simp[h1,h2,h3,h4]
theorem Gq(s:bZ)(b:Bool)(h:cY s=b)(w:World)(htx:s.text.size≤4611686018427387900):Calls Tryz.prog 71 #[.agg ⟨tC s⟩] w fun e w'=>e= .returned (.bool b)∧Below w.heap.size w w':=by
 subst h
 exact ly s.id s.side s.shape s.sent s.got s.se s.ge s.done s.code s.text s.snd.size s.snd.left s.snd.held s.rcv.size s.rcv.left s.rcv.held w htx
theorem Gr{A:Nat→Prop}(v:NV)(u:KV)(b:Bool)(h:(decide (aT u.k.ib≤u.k.st.rcv.held) &&decide ((cQ u.k.ob u.k.st).err=0) &&fB v.c u.k.ob true u.k.st)=b)(w:World)(hO:Rws A w 4 fC u.o u.k.ob)(hI:Rws A w 1 sC u.i u.k.ib)(hub:aT u.k.ib≤4611686018427387904)(hzi:u.k.ib.length≤8796093022208)(hzo:u.k.ob.length≤3518437208883)(htx:u.k.st.text.size≤4611686018427387900)(hfd:∀f∈u.k.ob,f.data.size<4294967281)(hg:MLen w):Calls Tryz.prog 72 #[.agg ⟨NC v⟩,.agg ⟨KC u⟩] w fun e w'=>e= .returned (.bool b)∧Below w.heap.size w w':=by
 subst h
 exact B6 v u w hO hI hub hzi hzo htx hfd hg
theorem B7{A:Nat→Prop}(v:NV)(u:KV)(w:World)(hO:Rws A w 4 fC u.o u.k.ob)(hI:Rws A w 1 sC u.i u.k.ib)(hub:aT u.k.ib≤4611686018427387904)(hzi:u.k.ib.length≤8796093022208)(hzo:u.k.ob.length≤3518437208883)(htx:u.k.st.text.size≤4611686018427387900)(hfd:∀f∈u.k.ob,f.data.size<4294967281)(hg:MLen w)(hM:Rws A w 2 mC u.m u.k.ms)(hhz:fK u.k.hd):Calls Tryz.prog 29 #[.agg ⟨NC v⟩,.agg ⟨KC u⟩] w fun e w'=>e= .returned (.bool (callOk v.c u.k))∧Below w.heap.size w w':=by
 refine ai Tryz.func29 rfl Tryz.ntmps29 J J ?_
 obtain⟨bv,hbv⟩:∃x,cY u.k.st=x:=⟨_,rfl⟩
 obtain⟨eh,heh⟩:∃x,bG u.k.hd=x:=⟨_,rfl⟩
 obtain⟨bw,hbw⟩:∃x,(decide (aT u.k.ib≤u.k.st.rcv.held) &&decide ((cQ u.k.ob u.k.st).err=0) &&fB v.c u.k.ob true u.k.st)=x:=⟨_,rfl⟩
 unfold callOk
 rw[hbv,heh,hbw]
 refine aD ?_
 refine ap ?_
 (refine bx ?_;intro g2)
 (refine bx ?_;intro g3)
 repeat' (first|(refine al ?_;intro g5)|refine cl (fun w hm=>Gq u.k.st bv hbv w htx) ?_|refine nx ?_)
 obtain⟨a1,ha1⟩:∃x,(bv&&decide (u.k.st.side=v.c.sd) &&decide (u.k.st.snd.size=v.c.sz) &&decide (u.k.st.rcv.size=v.c.sz) &&decide (u.k.st.snd.held=0))=x:=⟨_,rfl⟩
 rw[ha1]
 cases a1 with
 |false=>
  refine af rfl (by rw[Gp,ha1];rfl) ?_
  repeat' refine nx ?_
  (refine rt ?_;refine fun w hm=>⟨?_,hm.below⟩)
  rfl
 |true=>
 refine aa rfl (by rw[Gp,ha1];rfl) ?_
 repeat' (first|refine cl (fun w hm=>Ew u.k.hd u.m u.mc eh heh w (hg.below hm.below) (hM.below hm.below) hhz) ?_|refine nx ?_)
 by_cases h2:eh=0
 rotate_left
 · refine af rfl (by simpa using h2) ?_
   repeat' refine nx ?_
   (refine rt ?_;refine fun w hm=>⟨?_,hm.below⟩)
   simp[h2]
 refine aa rfl (by simpa using h2) ?_
 repeat' refine nx ?_
 refine bT (σ:=Nat) (fun j=>j≤u.k.ib.length∧u.k.ib.all (fun m=>decide (m.size≤16384))=(u.k.ib.drop j).all (fun m=>decide (m.size≤16384))) (fun j=>[(55,[],.int .i64 ((j:Nat):Int)),(54,[],.int .i64 ((u.k.ib.length:Nat):Int)),(53,[],.slice u.i u.k.ib.length u.ic),(2,[],.pointer (some ⟨g2,0,none⟩)),(3,[],.pointer (some ⟨g3,0,none⟩)),(5,[],.pointer (some ⟨g5,0,none⟩))]) (fun _=>[.cl g5 33 (tC u.k.st),.cl g3 39 [.int .i64 u.k.st.id,.int .i64 u.k.st.side,.int .i64 u.k.st.shape,.int .i64 u.k.st.sent,.int .i64 u.k.st.got,.bool u.k.st.se,.bool u.k.st.ge,.bool u.k.st.done,.int .i64 u.k.st.code,.string u.k.st.text,.int .i64 u.k.st.snd.size,.int .i64 u.k.st.snd.left,.int .i64 u.k.st.snd.held,.int .i64 u.k.st.rcv.size,.int .i64 u.k.st.rcv.left,.int .i64 u.k.st.rcv.held,.string u.k.sv,.string u.k.mt,.int .i64 u.k.lt,.slice u.m u.k.ms.length u.mc,.slice u.i u.k.ib.length u.ic,.slice u.o u.k.ob.length u.oc],.cl g2 28 [.int .i64 v.c.sd,.int .i64 v.c.nx,.int .i64 v.c.la,.int .i64 v.c.aw,.int .i64 v.c.sz,.int .i64 v.c.sw.size,.int .i64 v.c.sw.left,.int .i64 v.c.sw.held,.int .i64 v.c.rw.size,.int .i64 v.c.rw.left,.int .i64 v.c.rw.held,.slice v.x v.kv.length v.xc,.slice v.o v.c.ou.length v.oc,.slice v.p v.c.pg.length v.pc,.bool v.c.cl]]) (fun j=>u.k.ib.length-j) 0 [true,true,true] ⟨Nat.zero_le _,rfl⟩ ⟨J,J,J,J,J,J,trivial⟩ rfl ?_
 rintro j ⟨hj0,hw⟩
 by_cases hj:j<u.k.ib.length
 · obtain⟨s,hs⟩:∃s,u.k.ib[j]? =some s:=⟨u.k.ib[j],List.getElem?_eq_getElem hj⟩
   obtain⟨bb,off,hx,_,_,hrows⟩:=hI (by omega)
   have hrow:w.rangeAt bb (off+j * 1) (sC s):=hrows j s hs
   rw[eQ hs,List.all_cons]at hw
   try unfold NC
   rw[hx]
   repeat' refine nx ?_
   refine af rfl (by simp;omega) ?_
   repeat' (first|refine vx rfl (ia (m:=1) j hj) ?_|refine vx rfl (dd ae (v:= .string s) J J J J J (fun _=>hrow 0 _ rfl)) ?_|refine nx ?_)
   by_cases hk:s.size≤16384
   · rw[decide_eq_true hk,Bool.true_and]at hw
     refine aa rfl (by simp;omega) ?_
     repeat' (first|refine vx rfl (bm J J J J J (by omega)) ?_|refine dx ?_)
     rw[←hx]
     refine aY (j+1) [true,true,true] ⟨hj,hw⟩ (show u.k.ib.length - (j+1)<u.k.ib.length-j by omega) ⟨J,J,J,J,J,J,trivial⟩ rfl
   · rw[decide_eq_false hk,Bool.false_and]at hw
     refine af rfl (by simp;omega) ?_
     repeat' refine nx ?_
     (refine rt ?_;refine fun w hm=>⟨?_,hm.below⟩)
     rw[hw]
     simp
 · rw[List.drop_eq_nil_of_le (by omega),List.all_nil]at hw
   rw[hw]
   repeat' refine nx ?_
   refine aa rfl (by simp;omega) ?_
   repeat' refine nx ?_
   by_cases hd:u.k.st.done=true
   · refine af rfl hd ?_
     repeat' refine nx ?_
     (refine rt ?_;refine fun w hm=>⟨?_,hm.below⟩)
     simp[h2,hd]
     rw[Bool.eq_iff_iff]
     simp
   · refine aa rfl (eq_false_of_ne_true hd) ?_
     repeat' (first|refine cl (fun w hm=>Gr v u bw hbw w (hO.below hm.below) (hI.below hm.below) hub hzi hzo htx hfd (hg.below hm.below)) ?_|refine nx ?_)
     (refine rt ?_;refine fun w hm=>⟨?_,hm.below⟩)
     simp[h2,hd]
end
section
open Go.RowKit
theorem DO{P:Program}{w0:World}{S:co}{M:List Ent}{o:Oper}{b:Bool}{xs:Array Operand}{ts:Array TypeId}(_h1:o.op= .call ⟨.builtin .len,xs,ts⟩)(h:b=true):VO P w0 S M [(b,false)] o (.int .i64 0):=xR _ h
theorem yc{P:Program}{w0:World}{S:co}{M:List Ent}{L:Cd}{o:Oper}{xs:Array Operand}{ts:Array TypeId}(_h1:o.op= .call ⟨.builtin .len,xs,ts⟩)(h:aJ L=false):VO P w0 S M L o (.int .i64 0):=kk _ h
theorem vy{b:Bool}{c:Bool×Bool}(h:b=false):aJ [c,(b,true)]=false:=by rw[h];obtain⟨x,y⟩:=c;simp[aJ]
theorem vz{b:Bool}{c:Bool×Bool}(h:b=true):aJ [(b,false),c]=false:=by rw[h];rfl
def rgtGo(c:NL):Option Int→List KR→Bool
 |_,[]=>true
 |p,k::r=>if !callOk c k||decide (k.st.id>c.la)||(match p with|none=>false|some x=>decide (k.st.id≤x))then false else rgtGo c (some k.st.id) r
theorem sU(c:NL)(p:Option Int):rgtGo c p []=true:=by rw[rgtGo.eq_def]
theorem vA{c:NL}{p:Option Int}{k:KR}{r:List KR}(h:(!callOk c k||decide (k.st.id>c.la)||(match p with|none=>false|some x=>decide (k.st.id≤x)))=true):rgtGo c p (k::r)=false:=by rw[rgtGo.eq_def];dsimp only;rw[h];rfl
theorem oz{c:NL}{p:Option Int}{k:KR}{r:List KR}(h:(!callOk c k||decide (k.st.id>c.la)||(match p with|none=>false|some x=>decide (k.st.id≤x)))=false):rgtGo c p (k::r)=rgtGo c (some k.st.id) r:=by rw[rgtGo.eq_def];dsimp only;rw[h];rfl
def Ex(c:NL):Bool:= !oR c||decide ((c.pg.length:Int)>16)||decide ((qA c.ks:Int)>64)
def B8(c:NL):Bool:=c.cl&& (decide ((c.ou.length:Int)>0)||decide ((qA c.ks:Int)>0))
def tT(l:List Int):Bool:=l.all fun n=> !(decide (n<0)||decide (n>4294967295))
def rI(l:List aS):Bool:=l.all fun f=>decide (aA f=0)
theorem zw(n:Int)(l:List Int):tT (n::l)=(!(decide (n<0)||decide (n>4294967295)) &&tT l):=List.all_cons
theorem zx(f:aS)(l:List aS):rI (f::l)=(decide (aA f=0) &&rI l):=List.all_cons
def ko(c:NL):Bool:=if Ex c then false else if rgtGo c none c.ks then(if tT c.pg then(if rI c.ou then(if B8 c then false else decide (ba c.ks≤c.rw.held))else false)else false)else false
structure G5(v:NV):Prop where
 ub:∀u∈v.kv,aT u.k.ib≤4611686018427387904
 tb:ba v.c.ks≤4611686018427387904
 hd:∀u∈v.kv,fK u.k.hd
 of:∀f∈v.c.ou,f.data.size<4294967281
attribute [local irreducible] Calls
theorem Ey(v:NV)(b:Bool)(h:oR v.c=b)(w:World):Calls Tryz.prog 27 #[.agg ⟨NC v⟩] w fun e w'=>e= .returned (.bool b)∧Below w.heap.size w w':=by subst h;exact B4 v w
theorem Ez{A:Nat→Prop}(v:NV)(u:KV)(b:Bool)(h:callOk v.c u.k=b)(w:World)(hK:KOk A w u)(hub:aT u.k.ib≤4611686018427387904)(hs:Hi u.k)(htx:u.k.st.text.size≤4611686018427387900)(hfd:∀f∈u.k.ob,f.data.size<4294967281)(hg:MLen w)(hhz:fK u.k.hd):Calls Tryz.prog 29 #[.agg ⟨NC v⟩,.agg ⟨KC u⟩] w fun e w'=>e= .returned (.bool b)∧Below w.heap.size w w':=by
 subst h
 exact B7 v u w hK.2.2 hK.2.1 hub hs.2.1 hs.2.2 htx hfd hg hK.1 hhz
theorem oX{A:Nat→Prop}(v:NV)(n:Int)(h:ba v.c.ks=n)(w:World)(hN:NOk A w v)(hzk:v.kv.length≤606626243774)(htb:ba v.c.ks≤4611686018427387904)(hzi:∀u∈v.kv,u.k.ib.length≤8796093022208):Calls Tryz.prog 31 #[.agg ⟨NC v⟩] w fun e w'=>e= .returned (.int .i64 n)∧Below w.heap.size w w':=by
 subst h
 exact BM v w hN hzk htb hzi
theorem vC{A:Nat→Prop}(v:NV)(w:World)(hN:NOk A w v)(hz:rk v)(hgd:vp v)(hzv:G5 v)(hg:MLen w):Calls Tryz.prog 8 #[.agg ⟨NC v⟩] w fun e w'=>e= .returned (.bool (ko v.c))∧Below w.heap.size w w':=by
 refine ai Tryz.func8 rfl Tryz.ntmps8 J J ?_
 have hzk:=hz.ks
 have hzo:=hz.ou
 have hzp:=hz.pg
 have hl:=hN.lenk
 obtain⟨bn,hbn⟩:∃b,oR v.c=b:=⟨_,rfl⟩
 by_cases hn:bn=false∨v.c.pg.length>16
 · have hnb:(!bn||decide ((v.c.pg.length:Int)>16))=true:=by
    rcases hn with h|h
    · rw[h];rfl
    · rw[show decide ((v.c.pg.length:Int)>16)=true from decide_eq_true (by omega)];simp
   have h1:Ex v.c=true:=by unfold Ex;rw[hbn,hnb];rfl
   repeat' (first|refine aD ?_|refine ap ?_|refine ay ?_|refine aK ?_|(refine bQ J J J J J J ?_;intro g1)|((refine' bJ rfl ?_ J J ?_);rotate_left;first|exact ax ae J J J J|exact aM ae J J J J J J|exact cE J J J J J|exact ab ae 0 J J J J J|exact dv ae J J J J J J J)|refine aH rfl (ag J J J J ⟨J,trivial⟩ rfl (by kernel_rfl)) (fun w hm=>Ey v bn hbn w) J J ?_|((refine' bJ rfl ?_ J J ?_);rotate_left;exact DO rfl hnb)|((refine' bJ rfl ?_ J J ?_);rotate_left;exact xR (.map none) hnb))
   refine af rfl (by rw[hnb];rfl) ?_
   repeat' (first|refine aD ?_|refine ap ?_|refine ay ?_|refine bq ?_|refine aC ?_|refine aK ?_|((refine' bJ rfl ?_ J J ?_);rotate_left;exact ax ae J J J J))
   refine aI ae (fun _=>0) J J trivial rfl fun w hm=>⟨?_,hm.below⟩
   unfold ko;rw[h1];rfl
 have hbt:bn=true:=by cases bn with|true=>rfl|false=>exact absurd (.inl rfl) hn
 subst hbt
 have hpl:v.c.pg.length≤16:=by omega
 have hpd:decide ((v.c.pg.length:Int)>16)=false:=decide_eq_false (by omega)
 repeat' (first|refine aD ?_|refine ap ?_|refine ay ?_|refine aK ?_|(refine bQ J J J J J J ?_;intro g1)|((refine' bJ rfl ?_ J J ?_);rotate_left;first|exact ax ae J J J J|exact aM ae J J J J J J|exact cE J J J J J|exact ab ae 0 J J J J J|exact dv ae J J J J J J J)|refine aH rfl (ag J J J J ⟨J,trivial⟩ rfl (by kernel_rfl)) (fun w hm=>Ey v true hbn w) J J ?_)
 refine oq (σ:=Nat×Array MapEntry×Nat) (fun s=>s.2.1.size=qA v.c.ks) (fun s=> .map (some s.1)) (fun s=>[.obj s.1 (.map s.2.1 s.2.2)]) rfl (by simp[aJ];omega) (ag J J J J ⟨J,trivial⟩ rfl (by kernel_rfl)) (fun w1 hm=>nj v w1 (hN.below hm.below) (by omega)) J J ?_
 rintro⟨gm,es,ck⟩ hes
 dsimp only at hes
 dsimp only[List.cons_append,List.nil_append]
 repeat' (first|refine ay ?_|refine aK ?_|((refine' bJ rfl ?_ J J ?_);rotate_left;first|exact pA 0 J J J J Tryz.underlying75|exact aM ae J J J J J J|exact cE J J J J J))
 cases h1:Ex v.c with
 |true=>
  refine af rfl (by have h2:=h1;unfold Ex at h2;rw[hbn]at h2;rw[hes];exact h2) ?_
  repeat' (first|refine aD ?_|refine ap ?_|refine ay ?_|refine bq ?_|refine aC ?_|refine aK ?_|((refine' bJ rfl ?_ J J ?_);rotate_left;exact ax ae J J J J))
  refine aI ae (fun _=>0) J J trivial rfl fun w hm=>⟨?_,hm.below⟩
  unfold ko;rw[h1];rfl
 |false=>
 refine aa rfl (by have h2:=h1;unfold Ex at h2;rw[hbn]at h2;rw[hes];exact h2) ?_
 have hv1:ko v.c=if rgtGo v.c none v.c.ks then(if tT v.c.pg then(if rI v.c.ou then(if B8 v.c then false else decide (ba v.c.ks≤v.c.rw.held))else false)else false)else false:=by unfold ko;rw[h1];rfl
 repeat' (first|refine aD ?_|refine ap ?_|refine ay ?_|refine bo ?_|refine en ?_|refine aK ?_|((refine' bJ rfl ?_ J J ?_);rotate_left;first|exact ax ae J J J J|exact ab ae 1 J J J J J|exact dv ae J J J J J J J))
 refine bT (σ:=Nat) (fun p=>p≤v.kv.length∧rgtGo v.c none v.c.ks=rgtGo v.c (match p with|0=>none|i+1=>(v.kv[i]?).map (fun x=>x.k.st.id)) (v.c.ks.drop p)) (fun p=>[(27,[],.int .i64 ((p:Nat):Int)),(26,[],.int .i64 ((v.kv.length:Nat):Int)),(25,[],.slice v.x v.kv.length v.xc),(1,[],.pointer (some ⟨g1,0,none⟩))]) (fun _=>[.cl g1 28 [.int .i64 v.c.sd,.int .i64 v.c.nx,.int .i64 v.c.la,.int .i64 v.c.aw,.int .i64 v.c.sz,.int .i64 v.c.sw.size,.int .i64 v.c.sw.left,.int .i64 v.c.sw.held,.int .i64 v.c.rw.size,.int .i64 v.c.rw.left,.int .i64 v.c.rw.held,.slice v.x v.kv.length v.xc,.slice v.o v.c.ou.length v.oc,.slice v.p v.c.pg.length v.pc,.bool v.c.cl]]) (fun p=>v.kv.length-p) 0 [false,true] ⟨Nat.zero_le _,rfl⟩ ⟨J,J,J,J,trivial⟩ rfl ?_
 rintro j ⟨hj0,hr⟩
 by_cases hj:j<v.kv.length
 · obtain⟨u,hu⟩:∃u,v.kv[j]? =some u:=⟨_,List.getElem?_eq_getElem hj⟩
   have hum:=List.mem_of_getElem? hu
   obtain⟨bb,off,hx,_,_,hrows⟩:=hN.ks (by omega)
   have hrow:w.rangeAt bb (off+j * 22) (KC u):=hrows j u hu
   have hqj:v.c.ks[j]? =some u.k:=by rw[hN.eq,List.getElem?_map,hu];rfl
   obtain⟨vb,hvb⟩:∃b,callOk v.c u.k=b:=⟨_,rfl⟩
   rw[eQ hqj]at hr
   repeat' (first|refine aD ?_|refine ap ?_|refine ay ?_|refine aK ?_|((refine' bJ rfl ?_ J J ?_);rotate_left;exact aM ae J J J J J J))
   refine af rfl (by simp;omega) ?_
   repeat' (first|refine aD ?_|refine ap ?_|refine ay ?_|refine bo ?_|refine en ?_|refine aK ?_|(refine br ae J J J J J J ?_;intro g4)|((refine' bJ rfl ?_ J J ?_);rotate_left;first|exact dF ae (m:=22) j rfl hx J J J J J J J (fun _=>rfl) (fun _=>hj)|exact cO ae (cs:=KC u) J J J J J (fun _=>hrow)|exact ax ae J J J J)|refine av ae 0 J J J J J J J J J J J J ?_)
   have hv0:rgtGo v.c none v.c.ks=false→ko v.c=false:=fun h=>by rw[hv1,h];rfl
   cases j with
   |zero=>
    dsimp only at hr
    repeat' (first|refine ay ?_|refine aF ak rfl (by kernel_rfl) ?_|refine aK ?_|refine bD ?_|((refine' cB rfl ?_ J J J ?_);rotate_left;first|exact ax ae J J J J|exact aM ae J J J J J J|exact cE J J J J J|exact dj J J J J J|exact ab ae 0 J J J J J|exact ab ae 1 J J J J J)|refine aU rfl (ag J J J J ⟨J,J,trivial⟩ rfl (by kernel_rfl)) rfl (fun w hm=>Ez v u vb hvb w ((hN.ok u hum).below hm.below) (hzv.ub u hum) (hz.ok u hum) (hgd.tx u hum) (hgd.fr u hum) (hg.below hm.below) (hzv.hd u hum)) J J ?_|((refine' cB rfl ?_ J J J ?_);rotate_left;exact Dt (.pointer (some ⟨g1,1,none⟩)) rfl))
    cases hb:(!callOk v.c u.k||decide (u.k.st.id>v.c.la)||(match (none:Option Int)with|none=>false|some x=>decide (u.k.st.id≤x)))with
    |true=>
     rw[vA hb]at hr
     refine af rfl (by rw[←hb,hvb];first|rfl|(rw[hpos];rfl)) ?_
     repeat' (first|refine aD ?_|refine ap ?_|refine ay ?_|refine bq ?_|refine aC ?_|refine dK ?_|refine aK ?_|((refine' bJ rfl ?_ J J ?_);rotate_left;exact ax ae J J J J))
     refine aI ae (fun _=>0) J J trivial rfl fun w hm=>⟨?_,hm.below⟩
     rw[hv0 hr]
    |false=>
     rw[oz hb]at hr
     refine aa rfl (by rw[←hb,hvb];first|rfl|(rw[hpos];rfl)) ?_
     repeat' (first|refine ap ?_|refine ay ?_|refine bo ?_|refine cC ?_|refine aK ?_|((refine' bJ rfl ?_ J J ?_);rotate_left;first|exact bm J J J J J (by omega)|exact ax ae J J J J))
     refine aY 1 [false,true] ⟨hj,by dsimp only;rw[hr,hu];rfl⟩ (show v.kv.length-1<v.kv.length-0 by omega) ⟨J,J,J,J,trivial⟩ rfl
   |succ i=>
    have hi1:i<v.kv.length:=by omega
    have hsub:=Du i (by omega)
    have hpos:decide (((i+1:Nat):Int)>0)=true:=decide_eq_true (by omega)
    obtain⟨u0,hu0⟩:∃u,v.kv[i]? =some u:=⟨_,List.getElem?_eq_getElem hi1⟩
    have hrow0:w.rangeAt bb (off+i * 22) (KC u0):=hrows i u0 hu0
    dsimp only at hr
    rw[hu0]at hr
    dsimp only[Option.map]at hr
    repeat' (first|refine ay ?_|refine aF ak rfl (by kernel_rfl) ?_|refine aK ?_|refine bD ?_|((refine' cB rfl ?_ J J J ?_);rotate_left;first|exact dF ae (m:=22) i rfl hx J J J J J J J (fun _=>hsub) (fun _=>hi1)|exact dd ae (v:= .int .i64 u0.k.st.id) J J J J J (fun _=>hrow0 0 _ rfl)|exact ax ae J J J J|exact aM ae J J J J J J|exact cE J J J J J|exact dj J J J J J|exact ab ae 0 J J J J J|exact ab ae 1 J J J J J)|refine aU rfl (ag J J J J ⟨J,J,trivial⟩ rfl (by kernel_rfl)) rfl (fun w hm=>Ez v u vb hvb w ((hN.ok u hum).below hm.below) (hzv.ub u hum) (hz.ok u hum) (hgd.tx u hum) (hgd.fr u hum) (hg.below hm.below) (hzv.hd u hum)) J J ?_)
    cases hb:(!callOk v.c u.k||decide (u.k.st.id>v.c.la)||(match (some u0.k.st.id:Option Int)with|none=>false|some x=>decide (u.k.st.id≤x)))with
    |true=>
     rw[vA hb]at hr
     refine af rfl (by rw[←hb,hvb];first|rfl|(rw[hpos];rfl)) ?_
     repeat' (first|refine aD ?_|refine ap ?_|refine ay ?_|refine bq ?_|refine aC ?_|refine dK ?_|refine aK ?_|((refine' bJ rfl ?_ J J ?_);rotate_left;exact ax ae J J J J))
     refine aI ae (fun _=>0) J J trivial rfl fun w hm=>⟨?_,hm.below⟩
     rw[hv0 hr]
    |false=>
     rw[oz hb]at hr
     refine aa rfl (by rw[←hb,hvb];first|rfl|(rw[hpos];rfl)) ?_
     repeat' (first|refine ap ?_|refine ay ?_|refine bo ?_|refine cC ?_|refine aK ?_|((refine' bJ rfl ?_ J J ?_);rotate_left;first|exact bm J J J J J (by omega)|exact ax ae J J J J))
     refine aY (i+1+1) [false,true] ⟨hj,by dsimp only;rw[hr,hu];rfl⟩ (show v.kv.length - (i+1+1)<v.kv.length - (i+1)by omega) ⟨J,J,J,J,trivial⟩ rfl
 rw[List.drop_eq_nil_of_le (by omega),sU]at hr
 rw[hr,if_pos rfl]at hv1
 repeat' (first|refine aD ?_|refine ap ?_|refine ay ?_|refine aK ?_|((refine' bJ rfl ?_ J J ?_);rotate_left;exact aM ae J J J J J J))
 refine aa rfl (by simp;omega) ?_
 repeat' (first|refine aD ?_|refine ap ?_|refine ay ?_|refine en ?_|refine kh ?_|refine ei ?_|refine fw ?_|refine aK ?_|((refine' bJ rfl ?_ J J ?_);rotate_left;first|exact ax ae J J J J|exact ab ae 0 J J J J J|exact dv ae J J J J J J J))
 refine bT (σ:=Nat) (fun p=>p≤v.c.pg.length∧tT v.c.pg=tT (v.c.pg.drop p)) (fun p=>[(66,[],.int .i64 ((p:Nat):Int)),(65,[],.int .i64 ((v.c.pg.length:Nat):Int)),(64,[],.slice v.p v.c.pg.length v.pc),(1,[],.pointer (some ⟨g1,0,none⟩))]) (fun _=>[.cl g1 28 [.int .i64 v.c.sd,.int .i64 v.c.nx,.int .i64 v.c.la,.int .i64 v.c.aw,.int .i64 v.c.sz,.int .i64 v.c.sw.size,.int .i64 v.c.sw.left,.int .i64 v.c.sw.held,.int .i64 v.c.rw.size,.int .i64 v.c.rw.left,.int .i64 v.c.rw.held,.slice v.x v.kv.length v.xc,.slice v.o v.c.ou.length v.oc,.slice v.p v.c.pg.length v.pc,.bool v.c.cl]]) (fun p=>v.c.pg.length-p) 0 [true] ⟨Nat.zero_le _,rfl⟩ ⟨J,J,J,J,trivial⟩ rfl ?_
 clear hr hj0 hj
 rintro j ⟨hj0,hp⟩
 by_cases hj:j<v.c.pg.length
 · obtain⟨n,hs⟩:∃n,v.c.pg[j]? =some n:=⟨_,List.getElem?_eq_getElem hj⟩
   obtain⟨bb,off,hx,_,_,hrows⟩:=hN.pg (by omega)
   have hrow:w.rangeAt bb (off+j * 1) (iC n):=hrows j n hs
   rw[eQ hs,zw]at hp
   repeat' (first|refine aD ?_|refine ap ?_|refine ay ?_|refine aK ?_|((refine' bJ rfl ?_ J J ?_);rotate_left;exact aM ae J J J J J J))
   refine af rfl (by simp;omega) ?_
   repeat' (first|refine aD ?_|refine ap ?_|refine ay ?_|refine bo ?_|refine en ?_|refine aK ?_|((refine' bJ rfl ?_ J J ?_);rotate_left;first|exact dF ae (m:=1) j rfl hx J J J J J J J (fun _=>rfl) (fun _=>hj)|exact dd ae (v:= .int .i64 n) J J J J J (fun _=>hrow 0 _ rfl)|exact ax ae J J J J|exact aM ae J J J J J J|exact cE J J J J J))
   cases hb:(decide (n<0)||decide (n>4294967295))with
   |true=>
    rw[hb]at hp
    refine af J J ?_
    repeat' (first|refine aD ?_|refine ap ?_|refine ay ?_|refine bq ?_|refine aC ?_|refine dK ?_|refine aK ?_|((refine' bJ rfl ?_ J J ?_);rotate_left;exact ax ae J J J J))
    refine aI ae (fun _=>0) J J trivial rfl fun w hm=>⟨?_,hm.below⟩
    rw[hv1,show tT v.c.pg=false from hp]
    rfl
   |false=>
    rw[hb,Bool.not_false,Bool.true_and]at hp
    refine aa J J ?_
    repeat' (first|refine ap ?_|refine ay ?_|refine bo ?_|refine cC ?_|refine aK ?_|((refine' bJ rfl ?_ J J ?_);rotate_left;first|exact bm J J J J J (by omega)|exact ax ae J J J J))
    refine aY (j+1) [true] ⟨hj,hp⟩ (show v.c.pg.length - (j+1)<v.c.pg.length-j by omega) ⟨J,J,J,J,trivial⟩ rfl
 rw[List.drop_eq_nil_of_le (by omega)]at hp
 rw[show tT v.c.pg=true from hp,if_pos rfl]at hv1
 repeat' (first|refine aD ?_|refine ap ?_|refine ay ?_|refine aK ?_|((refine' bJ rfl ?_ J J ?_);rotate_left;exact aM ae J J J J J J))
 refine aa rfl (by simp;omega) ?_
 repeat' (first|refine aD ?_|refine ap ?_|refine ay ?_|refine en ?_|refine kh ?_|refine ei ?_|refine fw ?_|refine aK ?_|((refine' bJ rfl ?_ J J ?_);rotate_left;first|exact ax ae J J J J|exact ab ae 0 J J J J J|exact dv ae J J J J J J J))
 refine bT (σ:=Nat) (fun p=>p≤v.c.ou.length∧rI v.c.ou=rI (v.c.ou.drop p)) (fun p=>[(80,[],.int .i64 ((p:Nat):Int)),(79,[],.int .i64 ((v.c.ou.length:Nat):Int)),(78,[],.slice v.o v.c.ou.length v.oc),(1,[],.pointer (some ⟨g1,0,none⟩))]) (fun _=>[.cl g1 28 [.int .i64 v.c.sd,.int .i64 v.c.nx,.int .i64 v.c.la,.int .i64 v.c.aw,.int .i64 v.c.sz,.int .i64 v.c.sw.size,.int .i64 v.c.sw.left,.int .i64 v.c.sw.held,.int .i64 v.c.rw.size,.int .i64 v.c.rw.left,.int .i64 v.c.rw.held,.slice v.x v.kv.length v.xc,.slice v.o v.c.ou.length v.oc,.slice v.p v.c.pg.length v.pc,.bool v.c.cl]]) (fun p=>v.c.ou.length-p) 0 [true] ⟨Nat.zero_le _,rfl⟩ ⟨J,J,J,J,trivial⟩ rfl ?_
 clear hp hj0 hj
 rintro j ⟨hj0,hp⟩
 by_cases hj:j<v.c.ou.length
 · obtain⟨f,hs⟩:∃f,v.c.ou[j]? =some f:=⟨_,List.getElem?_eq_getElem hj⟩
   obtain⟨bb,off,hx,_,_,hrows⟩:=hN.ou (by omega)
   have hrow:w.rangeAt bb (off+j * 4) (fC f):=hrows j f hs
   have hfd:=hzv.of f (List.mem_of_getElem? hs)
   obtain⟨ef,hef⟩:∃x,aA f=x:=⟨_,rfl⟩
   rw[eQ hs,zx,hef]at hp
   repeat' (first|refine aD ?_|refine ap ?_|refine ay ?_|refine aK ?_|((refine' bJ rfl ?_ J J ?_);rotate_left;exact aM ae J J J J J J))
   refine af rfl (by simp;omega) ?_
   repeat' (first|refine aD ?_|refine ap ?_|refine ay ?_|refine bo ?_|refine en ?_|refine aK ?_|(refine br ae J J J J J J ?_;intro g8)|((refine' bJ rfl ?_ J J ?_);rotate_left;first|exact dF ae (m:=4) j rfl hx J J J J J J J (fun _=>rfl) (fun _=>hj)|exact cO ae (cs:=fC f) J J J J J (fun _=>hrow)|exact aM ae J J J J J J|exact ab ae 0 J J J J J)|refine aH rfl (ag J J J J ⟨J,trivial⟩ rfl (by kernel_rfl)) (fun w hm=>ya f ef hef w (hg.below hm.below) hfd) J J ?_|refine av ae 0 J J J J J J J J J J J J ?_)
   by_cases he:ef=0
   · rw[decide_eq_true he,Bool.true_and]at hp
     refine aa rfl (by simpa using he) ?_
     repeat' (first|refine ap ?_|refine ay ?_|refine bo ?_|refine cC ?_|refine aK ?_|((refine' bJ rfl ?_ J J ?_);rotate_left;first|exact bm J J J J J (by omega)|exact ax ae J J J J))
     refine aY (j+1) [false,true] ⟨hj,hp⟩ (show v.c.ou.length - (j+1)<v.c.ou.length-j by omega) ⟨J,J,J,J,trivial⟩ rfl
   · rw[decide_eq_false he,Bool.false_and]at hp
     refine af rfl (by simpa using he) ?_
     repeat' (first|refine aD ?_|refine ap ?_|refine ay ?_|refine bq ?_|refine aC ?_|refine dK ?_|refine aK ?_|((refine' bJ rfl ?_ J J ?_);rotate_left;exact ax ae J J J J))
     refine aI ae (fun _=>0) J J trivial rfl fun w hm=>⟨?_,hm.below⟩
     rw[hv1,show rI v.c.ou=false from hp]
     rfl
 rw[List.drop_eq_nil_of_le (by omega)]at hp
 rw[show rI v.c.ou=true from hp,if_pos rfl]at hv1
 repeat' (first|refine aD ?_|refine ap ?_|refine ay ?_|refine aK ?_|((refine' bJ rfl ?_ J J ?_);rotate_left;exact aM ae J J J J J J))
 refine aa rfl (by simp;omega) ?_
 obtain⟨n,hn9⟩:∃n,ba v.c.ks=n:=⟨_,rfl⟩
 rw[hn9]at hv1
 by_cases hcl:v.c.cl=false
 · have h2:B8 v.c=false:=by unfold B8;rw[hcl];rfl
   rw[h2]at hv1
   repeat' (first|refine aD ?_|refine ap ?_|refine ay ?_|refine kh ?_|refine ei ?_|refine fw ?_|refine aK ?_|((refine' bJ rfl ?_ J J ?_);rotate_left;first|exact ax ae J J J J|exact aM ae J J J J J J|exact cE J J J J J|exact dj J J J J J|exact ab ae 0 J J J J J|exact dv ae J J J J J J J)|((refine' bJ rfl ?_ J J ?_);rotate_left;exact yc rfl (vy hcl))|((refine' bJ rfl ?_ J J ?_);rotate_left;exact kk (.map none) (vy hcl)))
   refine aa rfl (by rw[hcl];rfl) ?_
   repeat' (first|refine aD ?_|refine ay ?_|refine bq ?_|refine bo ?_|refine aF ak rfl (by kernel_rfl) ?_|refine aK ?_|refine bD ?_|((refine' cB rfl ?_ J J J ?_);rotate_left;first|exact ax ae J J J J|exact aM ae J J J J J J|exact ab ae 0 J J J J J)|refine aU rfl (ag J J J J ⟨J,trivial⟩ rfl (by kernel_rfl)) rfl (fun w hm=>oX v n hn9 w (hN.below hm.below) (by omega) hzv.tb (fun u hu=>(hz.ok u hu).2.1)) J J ?_)
   refine aI ae (fun _=>0) J J trivial rfl fun w hm=>⟨?_,hm.below⟩
   rw[hv1];rfl
 have hclt:v.c.cl=true:=by cases h:v.c.cl with|true=>rfl|false=>exact absurd h hcl
 by_cases ho:v.c.ou.length>0
 · have hod:decide ((v.c.ou.length:Int)>0)=true:=decide_eq_true (by omega)
   have h2:B8 v.c=true:=by unfold B8;rw[hclt,hod];rfl
   rw[h2]at hv1
   repeat' (first|refine aD ?_|refine ap ?_|refine ay ?_|refine kh ?_|refine ei ?_|refine fw ?_|refine aK ?_|((refine' bJ rfl ?_ J J ?_);rotate_left;first|exact ax ae J J J J|exact aM ae J J J J J J|exact cE J J J J J|exact dj J J J J J|exact ab ae 0 J J J J J|exact dv ae J J J J J J J)|((refine' bJ rfl ?_ J J ?_);rotate_left;exact yc rfl (vz hod))|((refine' bJ rfl ?_ J J ?_);rotate_left;exact kk (.map none) (vz hod)))
   refine af rfl (by rw[hclt,hod];rfl) ?_
   repeat' (first|refine aD ?_|refine ap ?_|refine ay ?_|refine bq ?_|refine aC ?_|refine aK ?_|((refine' bJ rfl ?_ J J ?_);rotate_left;exact ax ae J J J J))
   refine aI ae (fun _=>0) J J trivial rfl fun w hm=>⟨?_,hm.below⟩
   rw[hv1];rfl
 have hod:decide ((v.c.ou.length:Int)>0)=false:=decide_eq_false (by omega)
 repeat' (first|refine aD ?_|refine ap ?_|refine ay ?_|refine kh ?_|refine ei ?_|refine fw ?_|((refine' bJ rfl ?_ J J ?_);rotate_left;first|exact ax ae J J J J|exact aM ae J J J J J J|exact ab ae 0 J J J J J|exact dv ae J J J J J J J))
 refine oq (σ:=Nat×Array MapEntry×Nat) (fun s=>s.2.1.size=qA v.c.ks) (fun s=> .map (some s.1)) (fun s=>[.obj s.1 (.map s.2.1 s.2.2)]) rfl (by unfold aJ;rw[hod,hclt];rfl) (ag J J J J ⟨J,trivial⟩ rfl (by kernel_rfl)) (fun w1 hm=>nj v w1 (hN.below hm.below) (by omega)) J J ?_
 rintro⟨gq,es2,ck2⟩ hes2
 dsimp only at hes2
 dsimp only[List.cons_append,List.nil_append]
 repeat' (first|refine ay ?_|refine aK ?_|((refine' bJ rfl ?_ J J ?_);rotate_left;first|exact pA 0 J J J J Tryz.underlying75|exact aM ae J J J J J J|exact cE J J J J J|exact dj J J J J J))
 cases h2:B8 v.c with
 |true=>
  rw[h2]at hv1
  refine af rfl (by have h3:=h2;unfold B8 at h3;rw[hes2];exact h3) ?_
  repeat' (first|refine aD ?_|refine ap ?_|refine ay ?_|refine bq ?_|refine aC ?_|refine aK ?_|((refine' bJ rfl ?_ J J ?_);rotate_left;exact ax ae J J J J))
  refine aI ae (fun _=>0) J J trivial rfl fun w hm=>⟨?_,hm.below⟩
  rw[hv1];rfl
 |false=>
  rw[h2]at hv1
  refine aa rfl (by have h3:=h2;unfold B8 at h3;rw[hes2];exact h3) ?_
  repeat' (first|refine aD ?_|refine ay ?_|refine bq ?_|refine bo ?_|refine aF ak rfl (by kernel_rfl) ?_|refine aK ?_|refine bD ?_|((refine' cB rfl ?_ J J J ?_);rotate_left;first|exact ax ae J J J J|exact aM ae J J J J J J|exact ab ae 1 J J J J J)|refine aU rfl (ag J J J J ⟨J,trivial⟩ rfl (by kernel_rfl)) rfl (fun w hm=>oX v n hn9 w (hN.below hm.below) (by omega) hzv.tb (fun u hu=>(hz.ok u hu).2.1)) J J ?_)
  refine aI ae (fun _=>0) J J trivial rfl fun w hm=>⟨?_,hm.below⟩
  rw[hv1];rfl
end
end Go.Proofs.YthiocbcokfondaaGreatDoor.Y
