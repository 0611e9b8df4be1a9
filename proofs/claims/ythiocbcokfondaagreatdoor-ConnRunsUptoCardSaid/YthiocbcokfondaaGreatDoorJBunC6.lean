import Derived.Test.YthiocbcokfondaaGreatDoorJBunT
import Derived.Test.YthiocbcokfondaaGreatDoorJCn3
import Derived.Test.YthiocbcokfondaaGreatDoorJBunC2
import Derived.Test.YthiocbcokfondaaGreatDoorJBunY
set_option maxRecDepth 100000
set_option maxHeartbeats 32000000
namespace Go.Proofs.YthiocbcokfondaaGreatDoor.Y
section
open Go.RowKit
def gM(u:KV):KV:=if u.k.st.done=true then {u with k:={u.k with ob:=[]},o:=none,oc:=0}else u
theorem pw(u:KV):(gM u).k=dE u.k:=by unfold gM dE;split<;>rfl
structure lB where
 st:bZ
 w:bk
 ou:List aS
 o:Option Addr
 oc:Nat
 a:Option Addr
 ac:Nat
 r:List aS
def uS(u:KV)(p:lB):KV:={u with k:={u.k with st:=p.st,ob:=p.r},o:=p.a,oc:=p.ac}
structure Eu(c:NL)(u:KV)(p:lB):Prop where
 eq:js u.k.ob u.k.st c.sw c.ou=js p.r p.st p.w p.ou
 tx:p.st.text.size≤4611686018427387900
 fr:∀f∈p.r,f.data.size<4294967281
 ln:p.ou.length+p.r.length≤c.ou.length+u.k.ob.length
 cap:p.r.length≤p.ac
 at_:0<p.r.length→ ∃b off j,u.o=some ⟨b,off,none⟩∧p.a=some ⟨b,off+j * 4,none⟩∧p.r=u.k.ob.drop j
attribute [local irreducible] Calls
theorem jQ{w0:World}{M:List Ent}(gx xc n k:Nat)(kv:List KV)(u:KV)(hu:kv[k]? =some u)(w:World)(hM:Mem w0 w (.own (some ⟨gx,0,none⟩) xc 39 22 n ((kv).flatMap KC)::M)):Calls Tryz.prog 108 #[.pointer (some ⟨gx,0+k * 22,none⟩)] w fun e w'=> ∃r:Value,True∧e= .returned r∧Mem w0 w' (.own (some ⟨gx,0,none⟩) xc 39 22 n ((kv.set k (gM u)).flatMap KC)::M):=by
 refine cz hM Tryz.func108 rfl Tryz.ntmps108 J J ?_
 repeat' (first|refine vx rfl (cw ae 0 (v:= .bool u.k.st.done) J J J J J J (fun _=>by rw[Nat.zero_add];exact bc aO hu (k:=7) rfl)) ?_|refine nx ?_)
 cases hd:u.k.st.done with
 |true=>
  refine af J J ?_
  repeat' refine dx ?_
  refine cR ae 0 J J J J J J J J J (show jw _ (0+k * 22+21) _=_ from by rw[Nat.zero_add];exact cL aO (kv) k 21 (u) ({u with k:={u.k with ob:=[]},o:=none,oc:=0}) _ hu rfl) J J ?_
  repeat' refine dx ?_
  (refine cu ae (fun _=>0) J J trivial rfl fun w1 hm=> ?_)
  refine⟨_,trivial,rfl,?_⟩
  rw[gM,if_pos hd]
  exact hm
 |false=>
  refine aa J J ?_
  repeat' refine dx ?_
  (refine cu ae (fun _=>0) J J trivial rfl fun w1 hm=> ?_)
  refine⟨_,trivial,rfl,?_⟩
  rw[gM,if_neg (by rw[hd];simp),show kv.set k u=kv by obtain⟨h1,h2⟩:=List.getElem?_eq_some_iff.1 hu;rw[←h2];exact List.set_getElem_self h1]
  exact hm
theorem Gl(x:bk)(n:Int)(t:pf)(h:cA x n=t)(w:World):Calls Tryz.prog 166 #[.agg #[.int .i64 x.size,.int .i64 x.left,.int .i64 x.held],.int .i64 n] w fun e w'=>e= .returned (.tuple #[.agg #[.int .i64 t.win.size,.int .i64 t.win.left,.int .i64 t.win.held],.int .i64 t.err])∧Below w.heap.size w w':=by
 subst h
 exact qm x n w
theorem BV{u:KV}{p:lB}{i:Nat}{x:Value}(h:(tC p.st)[i]? =some x):(KC (uS u p))[i]? =some x:=by
 have hi:i<(tC p.st).length:=(List.getElem?_eq_some_iff.1 h).1
 have e:KC (uS u p)=tC p.st++(KC (uS u p)).drop 16:=rfl
 rw[e,List.getElem?_append_left hi]
 exact h
theorem kZ{w0:World}{M:List Ent}(gc gx xc:Nat)(o:Option Addr)(oc:Nat)(pa:Option Addr)(pc:Nat)(c:NL)(kv:List KV)(n:Nat)(k:Nat)(u:KV)(hu:kv[k]? =some u)(F:Nat→Prop)(w:World)(htx:u.k.st.text.size≤4611686018427387900)(hfr:∀f∈u.k.ob,f.data.size<4294967281)(hcap:u.k.ob.length≤u.oc)(hln:c.ou.length+u.k.ob.length≤3518437208882)(hO:Rws F w 4 fC u.o u.k.ob)(hg:MLen w0)(hM:Mem w0 w (.own o oc 65 4 c.ou.length (c.ou.flatMap fC):: .own (some ⟨gx,0,none⟩) xc 39 22 n (kv.flatMap KC):: .cl gc 28 [.int .i64 c.sd,.int .i64 c.nx,.int .i64 c.la,.int .i64 c.aw,.int .i64 c.sz,.int .i64 c.sw.size,.int .i64 c.sw.left,.int .i64 c.sw.held,.int .i64 c.rw.size,.int .i64 c.rw.left,.int .i64 c.rw.held,.slice (some ⟨gx,0,none⟩) n xc,.slice o c.ou.length oc,.slice pa c.pg.length pc,.bool c.cl]:: .rep F (fun w=>Rws F w 4 fC u.o u.k.ob)::M)):Calls Tryz.prog 157 #[.pointer (some ⟨gc,0,none⟩),.pointer (some ⟨gx,0+k * 22,none⟩)] w fun e w'=> ∃s:Value×lB,(Eu c u s.2∧js u.k.ob u.k.st c.sw c.ou=⟨s.2.st,s.2.w,s.2.r,s.2.ou⟩)∧e= .returned s.1∧Mem w0 w' (.own s.2.o s.2.oc 65 4 s.2.ou.length (s.2.ou.flatMap fC):: .own (some ⟨gx,0,none⟩) xc 39 22 n ((kv.set k (uS u s.2)).flatMap KC):: .cl gc 28 [.int .i64 c.sd,.int .i64 c.nx,.int .i64 c.la,.int .i64 c.aw,.int .i64 c.sz,.int .i64 s.2.w.size,.int .i64 s.2.w.left,.int .i64 s.2.w.held,.int .i64 c.rw.size,.int .i64 c.rw.left,.int .i64 c.rw.held,.slice (some ⟨gx,0,none⟩) n xc,.slice s.2.o s.2.ou.length s.2.oc,.slice pa c.pg.length pc,.bool c.cl]:: .rep F (fun w=>Rws F w 4 fC u.o u.k.ob)::M):=by
 have e0:kv.set k (uS u ⟨u.k.st,c.sw,c.ou,o,oc,u.o,u.oc,u.k.ob⟩)=kv:=by obtain⟨h1,h2⟩:=List.getElem?_eq_some_iff.1 hu;show kv.set k u=kv;rw[←h2];exact List.set_getElem_self h1
 rw[show kv.flatMap KC=(kv.set k (uS u ⟨u.k.st,c.sw,c.ou,o,oc,u.o,u.oc,u.k.ob⟩)).flatMap KC by rw[e0]]at hM
 refine cz hM Tryz.func157 rfl Tryz.ntmps157 J J ?_
 clear e0
 repeat' refine dx ?_
 refine bT (σ:=lB) (Eu c u) (fun p=>[(0,[],.pointer (some ⟨gc,0,none⟩)),(1,[],.pointer (some ⟨gx,0+k * 22,none⟩))]) (fun p=> .own p.o p.oc 65 4 p.ou.length (p.ou.flatMap fC):: .own (some ⟨gx,0,none⟩) xc 39 22 n ((kv.set k (uS u p)).flatMap KC):: .cl gc 28 [.int .i64 c.sd,.int .i64 c.nx,.int .i64 c.la,.int .i64 c.aw,.int .i64 c.sz,.int .i64 p.w.size,.int .i64 p.w.left,.int .i64 p.w.held,.int .i64 c.rw.size,.int .i64 c.rw.left,.int .i64 c.rw.held,.slice (some ⟨gx,0,none⟩) n xc,.slice p.o p.ou.length p.oc,.slice pa c.pg.length pc,.bool c.cl]:: .rep F (fun w=>Rws F w 4 fC u.o u.k.ob)::M) (fun p=>p.r.length) ⟨u.k.st,c.sw,c.ou,o,oc,u.o,u.oc,u.k.ob⟩ [true,true,true,true] ⟨rfl,htx,hfr,Nat.le_refl _,hcap,fun h0=> ?_⟩ ⟨J,J,trivial⟩ rfl ?_
 · obtain⟨b,off,hx,_⟩:=hO h0
   exact⟨b,off,0,hx,by rw[hx];simp,rfl⟩
 intro p hI
 have hk:(kv.set k (uS u p))[k]? =some (uS u p):=dG hu _
 have hki:k<kv.length:=(List.getElem?_eq_some_iff.1 hu).1
 have hlnp:=hI.ln
 have hcp:=hI.cap
 repeat' (first|refine vx rfl (cw ae 1 (v:= .slice p.a p.r.length p.ac) J J J J J J (fun _=>by rw[Nat.zero_add];exact bc aO hk (k:=21) rfl)) ?_|refine nx ?_)
 by_cases hr0:p.r=[]
 · refine aa rfl (by rw[hr0];rfl) ?_
   repeat' refine dx ?_
   (refine cu ae (fun _=>0) J J trivial rfl fun w1 hm=> ?_)
   refine⟨(_,p),⟨hI,?_⟩,rfl,hm⟩
   rw[hI.eq,hr0];rfl
 obtain⟨f,r,hfr0⟩:∃f r,p.r=f::r:=by cases h:p.r with|nil=>exact absurd h hr0|cons f r=>exact⟨f,r,rfl⟩
 have hlen0:0<p.r.length:=by rw[hfr0];exact Nat.succ_pos _
 obtain⟨b,off,j,hx,ha,hdr⟩:=hI.at_ hlen0
 have hjf:u.k.ob[j]? =some f:=by rw[←List.head?_drop,←hdr,hfr0];rfl
 have hj:j<u.k.ob.length:=(List.getElem?_eq_some_iff.1 hjf).1
 have hfd0:=hI.fr f (by rw[hfr0];exact List.mem_cons_self ..)
 have hrow:∀w,Rws F w 4 fC u.o u.k.ob→w.rangeAt b (off+j * 4+0 * 4) (fC f):=fun w h=>by
  obtain⟨b',off',hx',_,_,h4⟩:=h (by omega)
  rw[hx]at hx'
  obtain⟨rfl,rfl⟩:=(by simpa using hx':b=b'∧off=off')
  rw[Nat.zero_mul,Nat.add_zero]
  exact h4 j f hjf
 refine af rfl (by rw[hfr0];simp) ?_
 repeat' refine dx ?_
 refine aD ?_
 repeat' (first|refine vx rfl (cw ae 1 (v:= .slice (some ⟨b,off+j * 4,none⟩) p.r.length p.ac) J J J J J J (fun _=>by rw[Nat.zero_add,←ha];exact bc aO hk (k:=21) rfl)) ?_|refine vx rfl (ia (m:=4) 0 hlen0) ?_|refine vx rfl (tu ae 3 (cs:=fC f) J J J J J J (fun _ w h=>hrow w h)) ?_|(refine al ?_;intro g4)|refine dx ?_)
 refine aD ?_
 repeat' refine dx ?_
 have hcn:0≤bF f∧bF f≤4294967296:=by unfold bF aG;split<;>(try split)<;>omega
 refine tv (σ:=Unit) (fun _=>True) (fun _=>[(5,[],.int .i64 (bF f)),(4,[],.pointer (some ⟨g4,0,none⟩)),(0,[],.pointer (some ⟨gc,0,none⟩)),(1,[],.pointer (some ⟨gx,0+k * 22,none⟩))]) (fun _=> .cl g4 65 (fC f):: .own p.o p.oc 65 4 p.ou.length (p.ou.flatMap fC):: .own (some ⟨gx,0,none⟩) xc 39 22 n ((kv.set k (uS u p)).flatMap KC):: .cl gc 28 [.int .i64 c.sd,.int .i64 c.nx,.int .i64 c.la,.int .i64 c.aw,.int .i64 c.sz,.int .i64 p.w.size,.int .i64 p.w.left,.int .i64 p.w.held,.int .i64 c.rw.size,.int .i64 c.rw.left,.int .i64 c.rw.held,.slice (some ⟨gx,0,none⟩) n xc,.slice p.o p.ou.length p.oc,.slice pa c.pg.length pc,.bool c.cl]:: .rep F (fun w=>Rws F w 4 fC u.o u.k.ob)::M) ?_ ?_
 · skip
   repeat' refine nx ?_
   by_cases hk2:f.kind=2
   · refine af rfl (by simpa using hk2) ?_
     repeat' (first|refine cl (fun w hm=>iO f.data w) ?_|refine dx ?_)
     refine cJ () [] trivial ⟨by rw[bF,if_pos hk2];rfl,rfl,rfl,rfl,trivial⟩ rfl
   · refine aa rfl (by simpa using hk2) ?_
     repeat' refine dx ?_
     refine cJ () [] trivial ⟨by rw[bF,if_neg hk2];rfl,rfl,rfl,rfl,trivial⟩ rfl
 rintro⟨⟩ -
 repeat' (first|refine vx rfl (cw ae 2 (v:= .int .i64 p.st.snd.left) J J J J J J (fun _=>by rw[Nat.zero_add];exact bc aO hk (k:=11) rfl)) ?_|refine nx ?_)
 by_cases hA:p.st.snd.left<bF f∨p.w.left<bF f
 · refine af rfl (by simp only[Bool.or_eq_true,decide_eq_true_eq];omega) ?_
   repeat' refine dx ?_
   (refine rt ?_;refine fun w1 hm=> ?_)
   refine⟨(_,p),⟨hI,?_⟩,rfl,hm.mask [false] rfl⟩
   rw[hI.eq,hfr0,js,if_pos hA]
 refine aa rfl (by simp only[Bool.or_eq_false_iff,decide_eq_false_iff_not];omega) ?_
 obtain⟨r1,hr1⟩:∃x,aZ p.st f=x:=⟨_,rfl⟩
 obtain⟨t1,ht1⟩:∃x,cA p.w (bF f)=x:=⟨_,rfl⟩
 have hr1t:r1.st.text.size≤4611686018427387900:=by rw[←hr1];exact kY hI.tx hfd0
 repeat' (first|refine vx rfl (gD ae 2 (cs:=tC p.st) J J J J J J (fun _ i x hx=>by rw[Nat.zero_add,Nat.add_zero];exact bc aO hk (BV hx))) ?_|refine aF ak rfl (by kernel_rfl) ?_|(refine bO ?_;intro g)|((refine' cB rfl ?_ J J J ?_);rotate_left;first|exact gD ae 2 (cs:=tC p.st) J J J J J J (fun _ i x hx=>by rw[Nat.zero_add,Nat.add_zero];exact bc aO hk (BV hx))|exact ax ae J J J J|exact aM ae J J J J J J|exact ab ae 0 J J J J J)|refine aU rfl (ag J J J J ⟨J,J,trivial⟩ rfl (by kernel_rfl)) rfl (fun w hm=>qv p.st f r1 hr1 w hI.tx hfd0 (hg.below hm.below)) J J ?_|refine cg ae J J J J J J ?_|refine nx ?_)
 by_cases he1:r1.err=0
 rotate_left
 · refine af rfl (by simpa using he1) ?_
   repeat' refine dx ?_
   (refine rt ?_;refine fun w1 hm=> ?_)
   refine⟨(_,p),⟨hI,?_⟩,rfl,hm.mask [false,false] rfl⟩
   rw[hI.eq,hfr0,js,if_neg hA,hr1,if_pos he1]
 refine aa rfl (by simpa using he1) ?_
 repeat' (first|(refine al ?_;intro g8)|refine cl (fun w hm=>Gl p.w (bF f) t1 ht1 w) ?_|refine nx ?_)
 by_cases he2:t1.err=0
 rotate_left
 · refine af rfl (by simpa using he2) ?_
   repeat' refine dx ?_
   (refine rt ?_;refine fun w1 hm=> ?_)
   refine⟨(_,p),⟨hI,?_⟩,rfl,hm.mask [false,false,false] rfl⟩
   rw[hI.eq,hfr0,js,if_neg hA,hr1,if_neg (by simpa using he1),ht1,if_pos he2]
 refine aa rfl (by simpa using he2) ?_
 repeat' refine nx ?_
 have hoc0:((kv.set k (uS u p)).flatMap KC)[k * 22+21]? =some (.slice (some ⟨b,off+j * 4,none⟩) p.r.length p.ac):=by rw[←ha];exact bc aO hk (k:=21) rfl
 have hk1:((kv.set k (uS u p)).set k {uS u p with k:={(uS u p).k with st:=r1.st}})[k]? =some {uS u p with k:={(uS u p).k with st:=r1.st}}:=dG hk _
 have hoc1:(((kv.set k (uS u p)).set k {uS u p with k:={(uS u p).k with st:=r1.st}}).flatMap KC)[k * 22+21]? =some (.slice (some ⟨b,off+j * 4,none⟩) p.r.length p.ac):=by rw[←ha];exact bc aO hk1 (k:=21) rfl
 refine cT [true,true,true,true,false,false] (fun w=>w.cell? ⟨gx,0+k * 22+21,none⟩=some (.slice (some ⟨b,off+j * 4,none⟩) p.r.length p.ac)) ak (by kernel_rfl) J J (fun w hM=>iH (hM.2.get (i:=4) rfl) (by rw[Nat.zero_add];exact hoc0)) ?_
 iterate 8 (((refine' mZ J J ?_ J J ?_);rotate_left;first|exact ax ae J J J J|exact ab ae 0 J J J J J|exact ab ae 1 J J J J J))
 refine DB ae J J J J J J (fun w h=>h) J J ?_
 ((refine' mZ J J ?_ J J ?_);rotate_left;exact dQ ae 1 p.r.length J J J J J J J J J J J (by omega) hcp)
 iterate 2 (((refine' mZ J J ?_ J J ?_);rotate_left;exact ax ae J J J J))
 refine kU ae 5 J J J J J J J J J J J J (fun w h=>⟨h.mask [true,true,true,true,false,false] rfl,iH (h.2.get (i:=4) rfl) (by rw[Nat.zero_add];exact hoc0)⟩) ?_
 iterate 2 (((refine' mZ J J ?_ J J ?_);rotate_left;exact ax ae J J J J))
 refine za ae 4 J J J J J J J J J (show jw _ (0+k * 22+0) _=_ from by rw[Nat.zero_add];exact cL aO (kv.set k (uS u p)) k 0 (uS u p) {uS u p with k:={(uS u p).k with st:=r1.st}} _ hk rfl) J J (fun w h=>⟨h.mask [true,true,true,true,false,false] rfl,iH (h.2.get (i:=4) rfl) (by rw[Nat.zero_add];exact hoc1)⟩) ?_
 iterate 2 (((refine' mZ J J ?_ J J ?_);rotate_left;exact ax ae J J J J))
 refine BB ae 4 J J J J J J J J J (show jw _ (0+k * 22+21) _=_ from by rw[Nat.zero_add];exact cL aO ((kv.set k (uS u p)).set k {uS u p with k:={(uS u p).k with st:=r1.st}}) k 21 {uS u p with k:={(uS u p).k with st:=r1.st}} {uS u p with k:={(uS u p).k with st:=r1.st,ob:=r},o:=(if p.ac=1 then some ⟨b,off+j * 4,none⟩else(some ⟨b,off+j * 4,none⟩:Option Addr).map (·.add (1 * 4))),oc:=p.ac-1} _ hk1 (by rw[show p.r.length-1=r.length by rw[hfr0];rfl];rfl)) J J ?_
 rw[List.set_set,List.set_set]
 repeat' refine nx ?_
 refine dk 7 ak rfl (by kernel_rfl) ?_
 iterate 6 (((refine' cB rfl ?_ J J J ?_);rotate_left;first|exact ax ae J J J J|exact ab ae 2 J J J J J|exact ab ae 5 J J J J J))
 refine dT ae J J J ⟨J,trivial⟩ J J J J J J J J ?_
 refine bO ?_
 intro s1
 refine bB ae 4 0 J J J J J J J J J (fun _ _=>rfl) fP J J (by unfold maxLen;omega) (by omega) J J ?_
 intro sa sc
 repeat' refine dx ?_
 have hk2:(kv.set k {uS u p with k:={(uS u p).k with st:=r1.st,ob:=r},o:=(if p.ac=1 then some ⟨b,off+j * 4,none⟩else(some ⟨b,off+j * 4,none⟩:Option Addr).map (·.add (1 * 4))),oc:=p.ac-1})[k]? =some {uS u p with k:={(uS u p).k with st:=r1.st,ob:=r},o:=(if p.ac=1 then some ⟨b,off+j * 4,none⟩else(some ⟨b,off+j * 4,none⟩:Option Addr).map (·.add (1 * 4))),oc:=p.ac-1}:=dG hu _
 refine bL (σ:=Value) (fun _=>True) (fun r=>r) (fun _=>_) rfl (ag J J J J ⟨J,trivial⟩ rfl (by kernel_rfl)) (fun w hM=>(jQ gx xc n k (kv.set k {uS u p with k:={(uS u p).k with st:=r1.st,ob:=r},o:=(if p.ac=1 then some ⟨b,off+j * 4,none⟩else(some ⟨b,off+j * 4,none⟩:Option Addr).map (·.add (1 * 4))),oc:=p.ac-1}) {uS u p with k:={(uS u p).k with st:=r1.st,ob:=r},o:=(if p.ac=1 then some ⟨b,off+j * 4,none⟩else(some ⟨b,off+j * 4,none⟩:Option Addr).map (·.add (1 * 4))),oc:=p.ac-1} hk2 w (hM.perm (List.perm_middle (l₁:=[_,_,_,_,_])))).mono fun e w' ⟨r,h1,h2,h3⟩=>⟨r,trivial,h2,h3⟩) J J ?_
 rintro rv -
 rw[List.set_set]
 repeat' refine dx ?_
 have hrd:p.r.length=r.length+1:=by rw[hfr0];rfl
 have hdr1:r=u.k.ob.drop (j+1):=by rw[hfr0,eQ hjf]at hdr;exact(List.cons.inj hdr).2
 have hstep:js u.k.ob u.k.st c.sw c.ou=if r1.st.done=true then⟨r1.st,t1.win,[],p.ou++[f]⟩else js r r1.st t1.win (p.ou++[f]):=by
  rw[hI.eq,hfr0,js,if_neg hA,hr1,if_neg (by simpa using he1),ht1,if_neg (by simpa using he2)]
 cases hdn:r1.st.done with
 |true=>
  rw[hdn,if_pos rfl]at hstep
  rw[gM,if_pos (show({uS u p with k:={(uS u p).k with st:=r1.st,ob:=r},o:=(if p.ac=1 then some ⟨b,off+j * 4,none⟩else(some ⟨b,off+j * 4,none⟩:Option Addr).map (·.add (1 * 4))),oc:=p.ac-1}:KV).k.st.done=true from hdn)]
  refine gE (M':= .own (⟨r1.st,t1.win,p.ou++[f],sa,sc,none,0,[]⟩:lB).o (⟨r1.st,t1.win,p.ou++[f],sa,sc,none,0,[]⟩:lB).oc 65 4 (⟨r1.st,t1.win,p.ou++[f],sa,sc,none,0,[]⟩:lB).ou.length ((⟨r1.st,t1.win,p.ou++[f],sa,sc,none,0,[]⟩:lB).ou.flatMap fC):: .own (some ⟨gx,0,none⟩) xc 39 22 n ((kv.set k (uS u (⟨r1.st,t1.win,p.ou++[f],sa,sc,none,0,[]⟩:lB))).flatMap KC):: .cl gc 28 [.int .i64 c.sd,.int .i64 c.nx,.int .i64 c.la,.int .i64 c.aw,.int .i64 c.sz,.int .i64 (⟨r1.st,t1.win,p.ou++[f],sa,sc,none,0,[]⟩:lB).w.size,.int .i64 (⟨r1.st,t1.win,p.ou++[f],sa,sc,none,0,[]⟩:lB).w.left,.int .i64 (⟨r1.st,t1.win,p.ou++[f],sa,sc,none,0,[]⟩:lB).w.held,.int .i64 c.rw.size,.int .i64 c.rw.left,.int .i64 c.rw.held,.slice (some ⟨gx,0,none⟩) n xc,.slice (⟨r1.st,t1.win,p.ou++[f],sa,sc,none,0,[]⟩:lB).o (⟨r1.st,t1.win,p.ou++[f],sa,sc,none,0,[]⟩:lB).ou.length (⟨r1.st,t1.win,p.ou++[f],sa,sc,none,0,[]⟩:lB).oc,.slice pa c.pg.length pc,.bool c.cl]:: .rep F (fun w=>Rws F w 4 fC u.o u.k.ob)::M) (fun w hM=> ?_) ?_
  · have h1:=(hM.mask [true,false,false,false,false,true,true] rfl).perm (List.Perm.swap _ _ _)
    simp only[List.flatMap_append,List.flatMap_singleton,List.length_append,List.length_singleton]
    exact h1
  · exact aY ⟨r1.st,t1.win,p.ou++[f],sa,sc,none,0,[]⟩ [] ⟨hstep,hr1t,fun x hx=>(by cases hx),by simp;omega,Nat.le_refl _,fun h=>absurd h (Nat.lt_irrefl _)⟩ (by rw[hrd];exact Nat.succ_pos _) ⟨J,J,trivial⟩ rfl
 |false=>
  rw[hdn,if_neg (by simp)]at hstep
  rw[gM,if_neg (show¬ ({uS u p with k:={(uS u p).k with st:=r1.st,ob:=r},o:=(if p.ac=1 then some ⟨b,off+j * 4,none⟩else(some ⟨b,off+j * 4,none⟩:Option Addr).map (·.add (1 * 4))),oc:=p.ac-1}:KV).k.st.done=true by show¬r1.st.done=true;rw[hdn];simp)]
  refine gE (M':= .own (⟨r1.st,t1.win,p.ou++[f],sa,sc,(if p.ac=1 then some ⟨b,off+j * 4,none⟩else(some ⟨b,off+j * 4,none⟩:Option Addr).map (·.add (1 * 4))),p.ac-1,r⟩:lB).o (⟨r1.st,t1.win,p.ou++[f],sa,sc,(if p.ac=1 then some ⟨b,off+j * 4,none⟩else(some ⟨b,off+j * 4,none⟩:Option Addr).map (·.add (1 * 4))),p.ac-1,r⟩:lB).oc 65 4 (⟨r1.st,t1.win,p.ou++[f],sa,sc,(if p.ac=1 then some ⟨b,off+j * 4,none⟩else(some ⟨b,off+j * 4,none⟩:Option Addr).map (·.add (1 * 4))),p.ac-1,r⟩:lB).ou.length ((⟨r1.st,t1.win,p.ou++[f],sa,sc,(if p.ac=1 then some ⟨b,off+j * 4,none⟩else(some ⟨b,off+j * 4,none⟩:Option Addr).map (·.add (1 * 4))),p.ac-1,r⟩:lB).ou.flatMap fC):: .own (some ⟨gx,0,none⟩) xc 39 22 n ((kv.set k (uS u (⟨r1.st,t1.win,p.ou++[f],sa,sc,(if p.ac=1 then some ⟨b,off+j * 4,none⟩else(some ⟨b,off+j * 4,none⟩:Option Addr).map (·.add (1 * 4))),p.ac-1,r⟩:lB))).flatMap KC):: .cl gc 28 [.int .i64 c.sd,.int .i64 c.nx,.int .i64 c.la,.int .i64 c.aw,.int .i64 c.sz,.int .i64 (⟨r1.st,t1.win,p.ou++[f],sa,sc,(if p.ac=1 then some ⟨b,off+j * 4,none⟩else(some ⟨b,off+j * 4,none⟩:Option Addr).map (·.add (1 * 4))),p.ac-1,r⟩:lB).w.size,.int .i64 (⟨r1.st,t1.win,p.ou++[f],sa,sc,(if p.ac=1 then some ⟨b,off+j * 4,none⟩else(some ⟨b,off+j * 4,none⟩:Option Addr).map (·.add (1 * 4))),p.ac-1,r⟩:lB).w.left,.int .i64 (⟨r1.st,t1.win,p.ou++[f],sa,sc,(if p.ac=1 then some ⟨b,off+j * 4,none⟩else(some ⟨b,off+j * 4,none⟩:Option Addr).map (·.add (1 * 4))),p.ac-1,r⟩:lB).w.held,.int .i64 c.rw.size,.int .i64 c.rw.left,.int .i64 c.rw.held,.slice (some ⟨gx,0,none⟩) n xc,.slice (⟨r1.st,t1.win,p.ou++[f],sa,sc,(if p.ac=1 then some ⟨b,off+j * 4,none⟩else(some ⟨b,off+j * 4,none⟩:Option Addr).map (·.add (1 * 4))),p.ac-1,r⟩:lB).o (⟨r1.st,t1.win,p.ou++[f],sa,sc,(if p.ac=1 then some ⟨b,off+j * 4,none⟩else(some ⟨b,off+j * 4,none⟩:Option Addr).map (·.add (1 * 4))),p.ac-1,r⟩:lB).ou.length (⟨r1.st,t1.win,p.ou++[f],sa,sc,(if p.ac=1 then some ⟨b,off+j * 4,none⟩else(some ⟨b,off+j * 4,none⟩:Option Addr).map (·.add (1 * 4))),p.ac-1,r⟩:lB).oc,.slice pa c.pg.length pc,.bool c.cl]:: .rep F (fun w=>Rws F w 4 fC u.o u.k.ob)::M) (fun w hM=> ?_) ?_
  · have h1:=(hM.mask [true,false,false,false,false,true,true] rfl).perm (List.Perm.swap _ _ _)
    simp only[List.flatMap_append,List.flatMap_singleton,List.length_append,List.length_singleton]
    exact h1
  · refine aY ⟨r1.st,t1.win,p.ou++[f],sa,sc,(if p.ac=1 then some ⟨b,off+j * 4,none⟩else(some ⟨b,off+j * 4,none⟩:Option Addr).map (·.add (1 * 4))),p.ac-1,r⟩ [] ⟨hstep,hr1t,fun x hx=>hI.fr x (by rw[hfr0];exact List.mem_cons_of_mem _ hx),by simp;omega,show r.length≤p.ac-1 by omega,fun h=>⟨b,off,j+1,hx,?_,hdr1⟩⟩ (by rw[hrd];exact Nat.lt_succ_self _) ⟨J,J,trivial⟩ rfl
    have h2:¬p.ac=1:=by have:0<r.length:=h;omega
    show(if p.ac=1 then some ⟨b,off+j * 4,none⟩else(some ⟨b,off+j * 4,none⟩:Option Addr).map (·.add (1 * 4)))=_
    rw[if_neg h2]
    show some (⟨b,off+j * 4+1 * 4,none⟩:Addr)=_
    rw[show off+j * 4+1 * 4=off+(j+1) * 4 by omega]
end
section
open Go.RowKit
def OutN(A:Nat→Prop)(w w':World)(v':NV):Prop:=NOk (fun b=>A b∨w.heap.size≤b) w' v'∧Below w.heap.size w w'
theorem OutN.same{A:Nat→Prop}{w w':World}{v:NV}(h:NOk A w v)(hb:Below w.heap.size w w'):OutN A w w' v:=⟨(h.below hb).mono fun _=> .inl,hb⟩
theorem OutN.made{A:Nat→Prop}{w w':World}{v:NV}(h:Mem w w' (EN v))(he:v.c.ks=v.kv.map (·.k)):OutN A w w' v:=⟨(NOk.own h.2 he).mono fun _=> .inr,h.below⟩
def ju(c:NL):NV:=⟨c,none,0,[],none,0,none,0⟩
theorem pz{A:Nat→Prop}{w:World}{c:NL}(h1:c.ks=[])(h2:c.ou=[])(h3:c.pg=[]):NOk A w (ju c):=⟨bV,by show Rws A w 4 fC none c.ou;rw[h2];exact bV,by show Rws A w 1 iC none c.pg;rw[h3];exact bV,h1,fun _ hu=>by cases hu⟩
theorem BW{id:Int}:∀ {l:List KR} {k i:Nat},bX id l k=some i→k≤i∧ ∃q,l[i-k]? =some q∧q.st.id=id
 | [],k,i,h=>by cases h
 |a::l,k,i,h=>by
  unfold bX at h
  split at h
  · obtain rfl:=(by simpa using h:k=i)
    exact⟨Nat.le_refl _,a,by simp,by assumption⟩
  · obtain⟨h1,q,h2,h3⟩:=BW h
    refine⟨by omega,q,?_,h3⟩
    rw[show i-k=i - (k+1)+1 by omega];simpa using h2
theorem dR{id:Int}{l:List KR}{i:Nat}(h:bX id l 0=some i):∃q,l[i]? =some q∧q.st.id=id:=by
 obtain⟨_,q,h2,h3⟩:=BW h
 exact⟨q,h2,h3⟩
theorem gB{c:NL}{kv:List KV}{i:Nat}{u:KV}(hq:c.ks=kv.map (·.k))(h:kv[i]? =some u):iU c i=u.k:=by
 unfold iU
 rw[hq,List.getElem?_map,h];rfl
theorem mr{l1 l2:List KV}(h:l1.map (·.k)=l2.map (·.k)){i:Nat}{u:KV}(hu:l2[i]? =some u):∃u1,l1[i]? =some u1∧u1.k=u.k:=by
 have h1:=congrArg (fun l=>l[i]?) h
 simp only[List.getElem?_map,hu,Option.map_some]at h1
 cases hh:l1[i]? with
 |none=>rw[hh]at h1;cases h1
 |some u1=>rw[hh]at h1;exact⟨u1,rfl,by simpa using h1⟩
theorem gN{l1 l2:List KV}(h:l1.map (·.k)=l2.map (·.k)):l1.length=l2.length:=by
 have:=congrArg List.length h
 simpa using this
def Id:KV:=⟨G2,none,0,none,0,none,0⟩
theorem E9{A:Nat→Prop}{w:World}:KOk A w Id:=⟨bV,bV,bV⟩
attribute [local irreducible] Calls
theorem qx{A:Nat→Prop}(v:NV)(id:Int)(o:Option Nat)(w:World)(hN:NOk A w v)(hzk:v.kv.length≤606626243774)(h:bX id v.c.ks 0=o):Calls Tryz.prog 37 #[.agg ⟨NC v⟩,.int .i64 id] w fun e w'=>e= .returned (.int .i64 (DH o))∧Below w.heap.size w w':=by subst h;exact DJ v id w hN hzk
theorem Gm(n:Int)(r:pf)(h:gT n=r)(w:World):Calls Tryz.prog 43 #[.int .i64 n] w fun e w'=>e= .returned (.tuple #[.agg #[.int .i64 r.win.size,.int .i64 r.win.left,.int .i64 r.win.held],.int .i64 r.err])∧Below w.heap.size w w':=by
 subst h
 exact vc n w
theorem vo(sd sz:Int)(w:World):Calls Tryz.prog 14 #[.int .i64 sd,.int .i64 sz] w fun e w'=>e= .returned (.tuple #[.agg ⟨NC (ju (fG sd sz).1)⟩,.int .i64 (fG sd sz).2])∧Below w.heap.size w w':=by
 refine ai Tryz.func14 rfl Tryz.ntmps14 J J ?_
 obtain⟨r,hr⟩:∃r,gT sz=r:=⟨_,rfl⟩
 repeat' (first|refine cl (fun w hm=>Gm sz r hr w) ?_|(refine al ?_;intro g)|refine nx ?_)
 by_cases h:(sd≠1∧sd≠2)∨r.err≠0
 · have hc:fG sd sz=(Hg,1):=by unfold fG;rw[hr,if_pos h]
   rw[hc]
   refine af rfl (by simpa using h) ?_
   repeat' refine nx ?_
   (refine rt ?_;refine fun w1 hm=>⟨rfl,hm.below⟩)
 · have hc:fG sd sz=(⟨sd,1,0,0,sz,r.win,r.win,[],[],[],false⟩,0):=by unfold fG;rw[hr,if_neg h]
   rw[hc]
   refine aa rfl (by
    cases hb:(((sd !=1) && (sd !=2))||(r.err !=0))with
    |false=>rfl
    |true=>exact absurd (by simpa using hb) h) ?_
   repeat' refine nx ?_
   (refine rt ?_;refine fun w1 hm=>⟨rfl,hm.below⟩)
theorem qy{A:Nat→Prop}(v:NV)(w:World)(hN:NOk A w v)(hz:rk v):Calls Tryz.prog 26 #[.agg ⟨NC v⟩] w fun e w'=> ∃v':NV,∃p:Option Addr×Nat,v'.c=(kD v.c).1∧e= .returned (.tuple #[.agg ⟨NC v'⟩,.slice p.1 v.c.ou.length p.2])∧OutN A w w' v'∧Rws (fun b=>w.heap.size≤b) w' 4 fC p.1 v.c.ou:=by
 refine ai Tryz.func26 rfl Tryz.ntmps26 J J ?_
 repeat' (first|(refine bx ?_;intro g1)|(refine al ?_;intro g)|refine nx ?_)
 refine cM (σ:=NV) (fun s=>s.c=v.c∧s.kv.map (·.k)=v.kv.map (·.k)) (fun s=> .agg ⟨NC s⟩) (fun s=>EN s) rfl (ag J J J J ⟨J,trivial⟩ rfl (by kernel_rfl)) (fun w1 hm=>dW v w1 (hN.below hm.below) hz) J J ?_
 rintro⟨c1,x1,xc1,kv1,o1,oc1,p1,pc1⟩ ⟨hc1,hk1⟩
 dsimp only at hc1 hk1
 subst hc1
 dsimp only[EN,List.cons_append,List.nil_append]
 refine bU (fun w h=>h.perm (uP [_,_,_] (kv1.flatMap EK) [_,_])) ?_
 dsimp only[List.cons_append,List.nil_append]
 repeat' (first|(refine al ?_;intro g4)|refine nx ?_)
 (refine rt ?_;refine fun w1 hm=>⟨⟨{v.c with ou:=[]},x1,xc1,kv1,none,0,p1,pc1⟩,(o1,oc1),rfl,rfl,⟨?_,hm.below⟩,Rws.own dy (hm.2.get (i:=2) rfl)⟩)
 have hE:MemL w.heap.size w1 (kv1.flatMap EK):=(hm.mask [false,false,false,false,false,false] rfl).2
 have h1:=hm.2.get (i:=1) rfl
 have h3:=hm.2.get (i:=3) rfl
 exact⟨(Rws.own aO h3).mono fun _=> .inr,bV,(Rws.own eJ h1).mono fun _=> .inr,by rw[hN.eq];exact hk1.symm,fun u hu=>(KOk.own (nh hE hu)).mono fun _=> .inr⟩
theorem zp{A:Nat→Prop}(v:NV)(id:Int)(w:World)(hN:NOk A w v)(hz:rk v):Calls Tryz.prog 10 #[.agg ⟨NC v⟩,.int .i64 id] w fun e w'=> ∃u:KV,u.k=(mV v.c id).1∧e= .returned (.tuple #[.agg ⟨KC u⟩,.bool (mV v.c id).2])∧KOk (fun b=>w.heap.size≤b) w' u∧Below w.heap.size w w':=by
 refine ai Tryz.func10 rfl Tryz.ntmps10 J J ?_
 have hzk:=hz.ks
 cases hf:bX id v.c.ks 0 with
 |none=>
  have hfl:mV v.c id=(G2,false):=by unfold mV;rw[hf]
  rw[hfl]
  repeat' (first|(refine bx ?_;intro g2)|(refine al ?_;intro g4)|refine cl (fun w hm=>qx v id none w (hN.below hm.below) (by omega) hf) ?_|refine nx ?_)
  refine af J J ?_
  repeat' refine nx ?_
  (refine rt ?_;refine fun w1 hm=>⟨Id,rfl,rfl,E9,hm.below⟩)
 |some i=>
  obtain⟨q,hq,_⟩:=dR hf
  obtain⟨u,hu,huk⟩:∃u,v.kv[i]? =some u∧u.k=q:=by rw[hN.eq,List.getElem?_map]at hq;simpa using hq
  have hat:=gB hN.eq hu
  have hfl:mV v.c id=(u.k,true):=by unfold mV;rw[hf];dsimp only;rw[hat]
  rw[hfl]
  have hi:i<v.kv.length:=(List.getElem?_eq_some_iff.1 hu).1
  repeat' (first|(refine bx ?_;intro g2)|(refine al ?_;intro g4)|refine cl (fun w hm=>qx v id (some i) w (hN.below hm.below) (by omega) hf) ?_|refine nx ?_)
  refine aa rfl (show decide (((i:Nat):Int)<0)=false from decide_eq_false (by omega)) ?_
  repeat' refine nx ?_
  refine cM (σ:=NV) (fun s=>s.c=v.c∧s.kv.map (·.k)=v.kv.map (·.k)) (fun s=> .agg ⟨NC s⟩) (fun s=>EN s) rfl (ag J J J J ⟨J,trivial⟩ rfl (by kernel_rfl)) (fun w1 hm=>dW v w1 (hN.below hm.below) hz) J J ?_
  rintro⟨c1,x1,xc1,kv1,o1,oc1,p1,pc1⟩ ⟨hc1,hk1⟩
  dsimp only at hc1 hk1
  subst hc1
  dsimp only[EN,List.cons_append,List.nil_append]
  obtain⟨u1,hu1,hu1k⟩:=mr hk1 hu
  have hi1:i<kv1.length:=(List.getElem?_eq_some_iff.1 hu1).1
  refine bU (fun w h=>h.perm (uP [_,_,_] (kv1.flatMap EK) [_,_])) ?_
  dsimp only[List.cons_append,List.nil_append]
  refine jt 2 rfl (by omega) ?_
  rintro gx rfl
  repeat' (first|refine vx rfl (ia (m:=22) i hi1) ?_|refine vx rfl (gD ae 2 (cs:=KC u1) J J J J J J (fun _ k c hc=>by rw[Nat.zero_add];exact bc aO hu1 hc)) ?_|refine dx ?_)
  (refine rt ?_;refine fun w1 hm=>⟨u1,hu1k,rfl,KOk.own (nh (hm.mask [false,false,false,false,false] rfl).2 (List.mem_of_getElem? hu1)),hm.below⟩)
end
section
open Go.RowKit
structure vp(v:NV):Prop where
 tx:∀u∈v.kv,u.k.st.text.size≤4611686018427387900
 fr:∀u∈v.kv,∀f∈u.k.ob,f.data.size<4294967281
 ob:∀u∈v.kv,u.k.ob.length≤1000000000
 ou:v.c.ou.length≤1000000000
theorem fR{α:Type}{l:List α}{i:Nat}{x y:α}(hi:i<l.length)(h:x∈l.set i y):x=y∨x∈l.eraseIdx i:=by
 rw[yV hi]at h
 rw[List.eraseIdx_eq_take_drop_succ]
 rcases List.mem_append.1 h with h|h
 · exact .inr (List.mem_append_left _ h)
 · rcases List.mem_cons.1 h with h|h
   · exact .inl h
   · exact .inr (List.mem_append_right _ h)
theorem tQ{u:KV}:∀ {l:List KV} {k:Nat},l[k]? =some u→(l.flatMap EK).Perm (EK u++(l.eraseIdx k).flatMap EK)
 |a::l,0,h=>by
  obtain rfl:=(by simpa using h:a=u)
  rw[List.flatMap_cons]
  exact List.Perm.refl _
 |a::l,k+1,h=>by
  have h1:l[k]? =some u:=by simpa using h
  rw[List.flatMap_cons,List.eraseIdx_cons_succ,List.flatMap_cons]
  exact(List.Perm.append_left _ (tQ h1)).trans (by rw[←List.append_assoc,←List.append_assoc];exact List.Perm.append_right _ List.perm_append_comm)
theorem qz{u:KV}{l:List KV}{k:Nat}(E:List Ent)(h:l[k]? =some u):(E++l.flatMap EK).Perm (EK u++(E++(l.eraseIdx k).flatMap EK)):=
 (List.Perm.append_left E (tQ h)).trans (by rw[←List.append_assoc,←List.append_assoc];exact List.Perm.append_right _ List.perm_append_comm)
theorem Mem.toRep{α:Type}{w0 w:World}{M:List Ent}{a:Option Addr}{cap sz:Nat}{T:TypeId}{f:α→List Value}{l:List α}(hf:∀x,(f x).length=sz)(h:Mem w0 w (.own a cap T sz l.length (l.flatMap f)::M)):Mem w0 w (.rep (fun b=> ∃ad,a=some ad∧b=ad.block) (fun w=>Rws (fun b=> ∃ad,a=some ad∧b=ad.block) w sz f a l)::M):=by
 have hmt:∀k,(∃ad,a=some ad∧k=ad.block)→(Ent.own a cap T sz l.length (l.flatMap f)).mut k:=fun k ⟨ad,h1,h2⟩=>by subst h1;exact h2
 refine⟨h.1,⟨⟨fun k hk=>(Ent.ok.mut_lt h.2.1 (hmt k hk)).2,Bs hf h.2.1,fun w1 w2 hk hp=>hp.agree hk⟩,fun x hx k=> ?_,h.2.2.2⟩⟩
 have h1:=h.2.2.1 x hx k
 exact⟨fun hm=>hm.elim,fun hm hk=>h1.2 hm (Ent.mut_foot (hmt k hk))⟩
theorem Mem.toRep1{α:Type}{w0 w:World}{M:List Ent}{a:Option Addr}{cap sz n:Nat}{T:TypeId}{f:α→List Value}{xs:List Value}(l:List α)(hf:∀x,(f x).length=sz)(h1:n=l.length)(h2:xs=l.flatMap f)(h:Mem w0 w (.own a cap T sz n xs::M)):Mem w0 w (.rep (fun b=> ∃ad,a=some ad∧b=ad.block) (fun w=>Rws (fun b=> ∃ad,a=some ad∧b=ad.block) w sz f a l)::M):=by
 subst h1
 subst h2
 exact h.toRep hf
theorem tR{c:NL}{i:Nat}{g:KR→KR}{k:KR}(hi:i<c.ks.length)(hk:g (iU c i)=k){r:FF}(hr:js k.ob k.st c.sw c.ou=r):eW (fi c i g) i={c with sw:=r.w,ks:=c.ks.set i {k with st:=r.st,ob:=r.ob},ou:=r.ou}:=by
 have h1:iU (fi c i g) i=k:=by
  rw[←hk]
  unfold fi
  unfold iU
  simp[hi]
 unfold eW yU
 rw[h1]
 unfold fi at h1 ⊢
 dsimp only
 rw[h1,List.set_set,hr]
theorem DM{A:Nat→Prop}(v:KV)(r:xN)(h:cQ v.k.ob v.k.st=r)(w:World)(hO:Rws A w 4 fC v.o v.k.ob)(hzo:v.k.ob.length≤3518437208883)(htx:v.k.st.text.size≤4611686018427387900)(hfd:∀f∈v.k.ob,f.data.size<4294967281)(hg:MLen w):Calls Tryz.prog 139 #[.agg #[.int .i64 v.k.st.id,.int .i64 v.k.st.side,.int .i64 v.k.st.shape,.int .i64 v.k.st.sent,.int .i64 v.k.st.got,.bool v.k.st.se,.bool v.k.st.ge,.bool v.k.st.done,.int .i64 v.k.st.code,.string v.k.st.text,.int .i64 v.k.st.snd.size,.int .i64 v.k.st.snd.left,.int .i64 v.k.st.snd.held,.int .i64 v.k.st.rcv.size,.int .i64 v.k.st.rcv.left,.int .i64 v.k.st.rcv.held,.string v.k.sv,.string v.k.mt,.int .i64 v.k.lt,.slice v.m v.k.ms.length v.mc,.slice v.i v.k.ib.length v.ic,.slice v.o v.k.ob.length v.oc]] w fun e w'=>e= .returned (.tuple #[.agg ⟨tC r.st⟩,.int .i64 r.err])∧Below w.heap.size w w':=by
 subst h
 exact BP v w hO hzo htx hfd hg
theorem ni:∀ (l:List aS) (s:bZ),s.text.size≤4611686018427387900→(∀f∈l,f.data.size<4294967281)→(cQ l s).st.text.size≤4611686018427387900
 | [],s,h,_=>h
 |f::l,s,h,hf=>by
  rw[cQ]
  split
  · exact h
  · exact ni l _ (kY h (hf f (List.mem_cons_self ..))) (fun x hx=>hf x (List.mem_cons_of_mem _ hx))
attribute [local irreducible] Calls
theorem BZ(msg:ByteArray)(sz:Int)(g5 g3:Nat)(w:World)(h5:w.cell? ⟨g5,0,none⟩=some (.string msg))(h3:w.cell? ⟨g3,0+4,none⟩=some (.int .i64 sz)):Calls Tryz.prog 96 #[.pointer (some ⟨g5,0,none⟩),.pointer (some ⟨g3,0,none⟩)] w fun e w'=>e= .returned (.int .i64 (if 16384<msg.size∨sz<aG msg then 3 else 0))∧Below w.heap.size w w':=by
 refine ai Tryz.func96 rfl Tryz.ntmps96 J J ?_
 repeat' (first|refine vx rfl (dd ae (v:= .string msg) J J J J J (fun _=>h5)) ?_|refine vx rfl (dd ae (v:= .int .i64 sz) J J J J J (fun _=>h3)) ?_|refine aF ak rfl (by kernel_rfl) ?_|refine bD ?_|((refine' cB rfl ?_ J J J ?_);rotate_left;first|exact dd ae (v:= .string msg) J J J J J (fun _=>h5)|exact dd ae (v:= .int .i64 sz) J J J J J (fun _=>h3)|exact ax ae J J J J|exact aM ae J J J J J J|exact cE J J J J J|exact dv ae J J J J J J J)|refine aU rfl (ag J J J J ⟨J,trivial⟩ rfl (by kernel_rfl)) rfl (fun w hm=>iO msg w) J J ?_|refine nx ?_)
 by_cases h:16384<msg.size∨sz<aG msg
 · rw[if_pos h]
   refine af rfl (by simp only[Bool.or_eq_true,decide_eq_true_eq];omega) ?_
   repeat' refine nx ?_
   (refine rt ?_;refine fun w hm=>⟨?_,hm.below⟩)
   rfl
 · rw[if_neg h]
   refine aa rfl (by simp only[Bool.or_eq_false_iff,decide_eq_false_iff_not];omega) ?_
   repeat' refine nx ?_
   (refine rt ?_;refine fun w hm=>⟨?_,hm.below⟩)
   rfl
theorem Gn(msg:ByteArray)(sz ck:Int)(g5 g3:Nat)(h:(if 16384<msg.size∨sz<aG msg then 3 else 0)=ck)(w:World)(h5:w.cell? ⟨g5,0,none⟩=some (.string msg))(h3:w.cell? ⟨g3,0+4,none⟩=some (.int .i64 sz)):Calls Tryz.prog 96 #[.pointer (some ⟨g5,0,none⟩),.pointer (some ⟨g3,0,none⟩)] w fun e w'=>e= .returned (.int .i64 ck)∧Below w.heap.size w w':=by
 subst h
 exact BZ msg sz g5 g3 w h5 h3
theorem xb{A:Nat→Prop}(v:NV)(f:aS)(ck:Int)(msg:ByteArray)(gm gn:Nat)(w:World)(hN:NOk A w v)(hz:rk v)(hgd:vp v)(hfd0:ck=0→f.data.size<4294967281)(hg:MLen w)(h5:w.cell? ⟨gm,0,none⟩=some (.string msg))(h3:w.cell? ⟨gn,0+4,none⟩=some (.int .i64 v.c.sz))(hck0:(if 16384<msg.size∨v.c.sz<aG msg then 3 else 0)=ck):Calls Tryz.prog 95 #[.agg #[.int .i64 v.c.sd,.int .i64 v.c.nx,.int .i64 v.c.la,.int .i64 v.c.aw,.int .i64 v.c.sz,.int .i64 v.c.sw.size,.int .i64 v.c.sw.left,.int .i64 v.c.sw.held,.int .i64 v.c.rw.size,.int .i64 v.c.rw.left,.int .i64 v.c.rw.held,.slice v.x v.kv.length v.xc,.slice v.o v.c.ou.length v.oc,.slice v.p v.c.pg.length v.pc,.bool v.c.cl],.agg #[.int .i64 f.kind,.int .i64 f.strm,.int .i64 f.num,.string f.data],.func (.func 96) #[] #[.pointer (some ⟨gm,0,none⟩),.pointer (some ⟨gn,0,none⟩)]] w fun e w'=> ∃v':NV,v'.c=(bS v.c f ck).1∧e= .returned (.tuple #[.agg ⟨NC v'⟩,.int .i64 (bS v.c f ck).2])∧OutN A w w' v':=by
 refine ai Tryz.func95 rfl Tryz.ntmps95 J J ?_
 have hzk:=hz.ks
 obtain⟨o,ho⟩:∃o,bX f.strm v.c.ks 0=o:=⟨_,rfl⟩
 repeat' (first|(refine bx ?_;intro g3)|(refine al ?_;intro g6)|refine cl (fun w hm=>qx v f.strm o w (hN.below hm.below) (by omega) ho) ?_|refine nx ?_)
 cases o with
 |none=>
  have hwl:bS v.c f ck=(v.c,10):=by unfold bS fj;rw[ho];rfl
  refine af J J ?_
  repeat' refine nx ?_
  (refine rt ?_;refine fun w1 hm=>⟨v,?_,?_,OutN.same hN hm.below⟩)
  · rw[hwl]
  · rw[hwl];rfl
 |some i=>
  obtain⟨q,hq,_⟩:=dR ho
  obtain⟨u,hu,huk⟩:∃u,v.kv[i]? =some u∧u.k=q:=by rw[hN.eq,List.getElem?_map]at hq;simpa using hq
  have hat:=gB hN.eq hu
  have hum:=List.mem_of_getElem? hu
  have hi:i<v.kv.length:=(List.getElem?_eq_some_iff.1 hu).1
  obtain⟨bb,off,hx,_,_,hrows⟩:=hN.ks (by omega)
  have hrow:w.rangeAt bb (off+i * 22) (KC u):=hrows i u hu
  obtain⟨hk1,hk2,hk3⟩:=hN.ok u hum
  obtain⟨hs1,hs2,hs3⟩:=hz.ok u hum
  have htx:=hgd.tx u hum
  have hfr:=hgd.fr u hum
  obtain⟨r,hr⟩:∃r,cQ u.k.ob u.k.st=r:=⟨_,rfl⟩
  have hrt:r.st.text.size≤4611686018427387900:=by rw[←hr];exact ni _ _ htx hfr
  obtain⟨r2,hr2⟩:∃r2,aZ r.st f=r2:=⟨_,rfl⟩
  have hwe:fj v.c f ck=if ck≠0 then ck else if r.err≠0 then r.err else r2.err:=by unfold fj;rw[ho];dsimp only;rw[hat,hr,hr2]
  refine aa rfl (show decide (((i:Nat):Int)<0)=false from decide_eq_false (by omega)) ?_
  repeat' (first|refine cl (fun w hm=>Gn msg v.c.sz ck gm gn hck0 w ((hm.below.cell (block_lt_of_cell h5)).trans h5) ((hm.below.cell (block_lt_of_cell h3)).trans h3)) ?_|refine nx ?_)
  by_cases hck:ck=0
  rotate_left
  · have hwl:bS v.c f ck=(v.c,ck):=by unfold bS;rw[hwe,if_pos hck,if_pos hck]
    refine af rfl (by simpa using hck) ?_
    repeat' refine nx ?_
    (refine rt ?_;refine fun w1 hm=>⟨v,?_,?_,OutN.same hN hm.below⟩)
    · rw[hwl]
    · rw[hwl];rfl
  have hfd:=hfd0 hck
  refine aa rfl (by simpa using hck) ?_
  rw[if_neg (by simpa using hck)]at hwe
  rw[hx]
  repeat' (first|refine vx rfl (ia (m:=22) i hi) ?_|refine vx rfl (rj (cs:=KC u) hrow) ?_|(refine al ?_;intro g10)|refine cl (fun w hm=>DM u r hr w (hk3.below hm.below) hs3 htx hfr (hg.below hm.below)) ?_|refine nx ?_)
  by_cases he1:r.err=0
  rotate_left
  · have hwl:bS v.c f ck=(v.c,r.err):=by unfold bS;rw[hwe,if_pos he1,if_pos he1]
    refine af rfl (by simpa using he1) ?_
    rw[←hx]
    repeat' refine nx ?_
    (refine rt ?_;refine fun w1 hm=>⟨v,?_,?_,OutN.same hN hm.below⟩)
    · rw[hwl]
    · rw[hwl];rfl
  refine aa rfl (by simpa using he1) ?_
  rw[if_neg (by simpa using he1)]at hwe
  repeat' (first|(refine al ?_;intro g12)|refine cl (fun w hm=>qv r.st f r2 hr2 w hrt hfd (hg.below hm.below)) ?_|refine nx ?_)
  by_cases he2:r2.err=0
  rotate_left
  · have hwl:bS v.c f ck=(v.c,r2.err):=by unfold bS;rw[hwe,if_pos he2]
    refine af rfl (by simpa using he2) ?_
    rw[←hx]
    repeat' refine nx ?_
    (refine rt ?_;refine fun w1 hm=>⟨v,?_,?_,OutN.same hN hm.below⟩)
    · rw[hwl]
    · rw[hwl];rfl
  refine aa rfl (by simpa using he2) ?_
  have hwl:bS v.c f ck=(eW (fi v.c i (fun k=>{k with ob:=k.ob++[f]})) i,0):=by unfold bS;rw[hwe,if_neg (by simpa using he2),ho];rfl
  rw[hwl]
  rw[←hx]
  repeat' refine nx ?_
  refine cM (σ:=NV) (fun s=>s.c=v.c∧s.kv.map (·.k)=v.kv.map (·.k)) (fun s=> .agg ⟨NC s⟩) (fun s=>EN s) rfl (ag J J J J ⟨J,trivial⟩ rfl (by kernel_rfl)) (fun w1 hm=>dW v w1 (hN.below hm.below) hz) J J ?_
  rintro⟨c1,x1,xc1,kv1,o1,oc1,p1,pc1⟩ ⟨hc1,hkm⟩
  dsimp only at hc1 hkm
  subst hc1
  dsimp only[EN,List.cons_append,List.nil_append]
  obtain⟨u1,hu1,hu1k⟩:=mr hkm hu
  have hi1:i<kv1.length:=(List.getElem?_eq_some_iff.1 hu1).1
  have hob:u1.k.ob.length≤1000000000:=by rw[hu1k];exact hgd.ob u hum
  have hou:=hgd.ou
  refine bU (fun w h=>h.perm (uP [_,_,_] (kv1.flatMap EK) [_,_,_,_,_])) ?_
  refine bU (fun w h=>h.perm (qz ([_,_,_]++[_,_,_,_,_]) hu1)) ?_
  dsimp only[EK,List.cons_append,List.nil_append]
  refine jt 5 rfl (by omega) ?_
  rintro gx rfl
  repeat' (first|refine vx rfl (ia (m:=22) i hi1) ?_|(refine al ?_;intro g14)|refine nx ?_)
  refine dk 7 ak rfl (by kernel_rfl) ?_
  iterate 6 (((refine' cB rfl ?_ J J J ?_);rotate_left;first|exact cw ae 6 (v:= .slice u1.o u1.k.ob.length u1.oc) J J J J J J (fun _=>by rw[Nat.zero_add];exact bc aO hu1 (k:=21) rfl)|exact ax ae J J J J|exact ab ae 10 J J J J J))
  refine dT ae J J J ⟨J,trivial⟩ J J J J J J J J ?_
  refine bO ?_
  intro s1
  refine bB ae 3 0 J J J J J J J J J (fun _ _=>rfl) fP J J (by unfold maxLen;omega) (by omega) J J ?_
  intro sa sc
  repeat' refine dx ?_
  refine cR ae 7 J J J J J J J J J (show jw _ (0+i * 22+21) _=_ from by rw[Nat.zero_add];exact cL aO (kv1) i 21 (u1) ({u1 with k:={u1.k with ob:=u1.k.ob++[f]},o:=sa,oc:=sc}) _ hu1 (by rw[show u1.k.ob.length+1=(u1.k.ob++[f]).length by simp];rfl)) J J ?_
  repeat' refine nx ?_
  have htx2:({u1 with k:={u1.k with ob:=u1.k.ob++[f]},o:=sa,oc:=sc}:KV).k.st.text.size≤4611686018427387900:=by show u1.k.st.text.size≤_;rw[hu1k];exact htx
  have hfr2:∀x∈({u1 with k:={u1.k with ob:=u1.k.ob++[f]},o:=sa,oc:=sc}:KV).k.ob,x.data.size<4294967281:=fun x hx=>by
   rcases List.mem_append.1 hx with hx|hx
   · exact hfr x (by rw[←hu1k];exact hx)
   · obtain rfl:=List.mem_singleton.1 hx
     exact hfd
  have hk2:(kv1.set i {u1 with k:={u1.k with ob:=u1.k.ob++[f]},o:=sa,oc:=sc})[i]? =some {u1 with k:={u1.k with ob:=u1.k.ob++[f]},o:=sa,oc:=sc}:=dG hu1 _
  refine df (p:=u1.k.ob.length+1≤sc∧ ∀ad,sa=some ad→w.heap.size≤ad.block) (fun w h=>⟨fo (h.2.get (i:=3) rfl),fun ad had=>(Ent.ok.mut_lt (h.2.get (i:=3) rfl) (k:=ad.block) (by subst had;rfl)).1⟩) (fun hcp2=> ?_)
  obtain⟨hcap2,hnew⟩:=hcp2
  refine bU (fun w h=>(((Mem.toRep1 (u1.k.ob++[f]) dy (by simp) (by simp[fC]) ((h.mask [false,true,true,true,true,true,true,true,false,false,true,false,false] rfl).perm (List.perm_middle (l₁:=[_,_])))).perm (List.perm_middle (l₁:=[_]))).perm (List.perm_middle (l₁:=[_,_,_,_,_,_]))).perm (List.perm_middle (l₁:=[_,_,_,_,_,_]))) ?_
  dsimp only[List.cons_append,List.nil_append]
  refine bL (σ:=Value×lB) (fun s=>Eu v.c {u1 with k:={u1.k with ob:=u1.k.ob++[f]},o:=sa,oc:=sc} s.2∧js (u1.k.ob++[f]) u1.k.st v.c.sw v.c.ou=⟨s.2.st,s.2.w,s.2.r,s.2.ou⟩) (fun s=>s.1) (fun s=>_) rfl (ag J J J J ⟨J,J,trivial⟩ rfl (by kernel_rfl)) (fun w1 hM=>(kZ _ gx xc1 o1 oc1 p1 pc1 v.c (kv1.set i {u1 with k:={u1.k with ob:=u1.k.ob++[f]},o:=sa,oc:=sc}) kv1.length i {u1 with k:={u1.k with ob:=u1.k.ob++[f]},o:=sa,oc:=sc} hk2 _ w1 htx2 hfr2 (by show(u1.k.ob++[f]).length≤sc;simp;exact hcap2) (by show v.c.ou.length+(u1.k.ob++[f]).length≤_;simp;omega) (hM.2.get (i:=3) rfl).2.1 hg hM).mono fun e w' ⟨s,h1,h2,h3⟩=>⟨s,h1,h2,h3⟩) J J ?_
  rintro⟨rv,s⟩ ⟨hI,hsol⟩
  dsimp only at hI hsol ⊢
  have hC:eW (fi v.c i (fun k=>{k with ob:=k.ob++[f]})) i={v.c with sw:=s.w,ks:=v.c.ks.set i (uS {u1 with k:={u1.k with ob:=u1.k.ob++[f]},o:=sa,oc:=sc} s).k,ou:=s.ou}:=by
   have h9:=tR (c:=v.c) (i:=i) (g:=fun k=>{k with ob:=k.ob++[f]}) (k:=({u1 with k:={u1.k with ob:=u1.k.ob++[f]},o:=sa,oc:=sc}:KV).k) (by rw[hN.lenk];exact hi) (by rw[hat,←hu1k]) hsol
   exact h9
  rw[hC]
  repeat' refine nx ?_
  (refine rt ?_;refine fun w1 hm=>⟨⟨{v.c with sw:=s.w,ks:=v.c.ks.set i (uS {u1 with k:={u1.k with ob:=u1.k.ob++[f]},o:=sa,oc:=sc} s).k,ou:=s.ou},some ⟨gx,0,none⟩,xc1,(kv1.set i {u1 with k:={u1.k with ob:=u1.k.ob++[f]},o:=sa,oc:=sc}).set i (uS {u1 with k:={u1.k with ob:=u1.k.ob++[f]},o:=sa,oc:=sc} s),s.o,s.oc,p1,pc1⟩,rfl,?_,⟨?_,hm.below⟩⟩)
  · unfold NC
    simp only[List.length_set]
  · have hg1:=hm.2.get (i:=1) rfl
    rw[show kv1.length=((kv1.set i {u1 with k:={u1.k with ob:=u1.k.ob++[f]},o:=sa,oc:=sc}).set i (uS {u1 with k:={u1.k with ob:=u1.k.ob++[f]},o:=sa,oc:=sc} s)).length by simp]at hg1
    have hR:MemL w.heap.size w1 ((kv1.eraseIdx i).flatMap EK):=(hm.mask [false,false,false,false,false,false,false,false] rfl).2
    have hrep:=(hm.2.get (i:=3) rfl).2.1
    refine⟨(Rws.own aO hg1).mono fun _=> .inr,(Rws.own dy (hm.2.get (i:=0) rfl)).mono fun _=> .inr,(Rws.own eJ (hm.2.get (i:=6) rfl)).mono fun _=> .inr,?_,fun x hx=> ?_⟩
    · rw[List.set_set,List.map_set,hkm,hN.eq]
    · rw[List.set_set]at hx
      rcases fR hi1 hx with rfl|hx
      · refine⟨(Rws.own fO (hm.2.get (i:=4) rfl)).mono fun _=> .inr,(Rws.own eX (hm.2.get (i:=5) rfl)).mono fun _=> .inr,fun h0=> ?_⟩
        obtain⟨b,off1,j,e1,e2,e3⟩:=hI.at_ h0
        obtain⟨b',off',e4,_,e6,e7⟩:=hrep (by simp)
        have e1':sa=some ⟨b,off1,none⟩:=e1
        rw[e1']at e4
        obtain⟨rfl,rfl⟩:=(by simpa using e4:b=b'∧off1=off')
        refine⟨b,off1+j * 4,e2,.inr (hnew _ e1'),e6,fun n y hy=> ?_⟩
        have hy':(({u1 with k:={u1.k with ob:=u1.k.ob++[f]},o:=sa,oc:=sc}:KV).k.ob.drop j)[n]? =some y:=by rw[←e3];exact hy
        rw[List.getElem?_drop]at hy'
        have h8:=e7 (j+n) y hy'
        rw[show off1+j * 4+n * 4=off1+(j+n) * 4 by omega]
        exact h8
      · exact(KOk.own (nh hR hx)).mono fun _=> .inr
end
end Go.Proofs.YthiocbcokfondaaGreatDoor.Y
