import Derived.Test.YthiocbcokfondaaGreatDoorJBunP
import Derived.Test.YthiocbcokfondaaGreatDoorJBunN1
set_option maxRecDepth 100000
set_option maxHeartbeats 32000000
namespace Go.Proofs.YthiocbcokfondaaGreatDoor.Y
section
def kA:List aS→bZ→bk→List aS→FF
 | [],s,w,o=>⟨s,w,[],o⟩
 |f::r,s,w,o=>
  if f.kind=2∧(s.snd.left<aG f.data∨w.left<aG f.data)then⟨s,w,f::r,o⟩
  else kA r (aZ s f).st (if f.kind=2 then(cA w (aG f.data)).win else w) (o++[f])
theorem GI(w:bk):DQ w 0=w:=by
 cases w
 simp[DQ]
theorem CC:∀ (l:List aS) (s:bZ) (w:bk) (o:List aS),VS s→s.snd.held=0→bi w=true→(cQ l s).err=0→
 (kA l s w o).st=(js l s w o).st∧(kA l s w o).w=(js l s w o).w∧(kA l s w o).ou=(js l s w o).ou∧(if(kA l s w o).st.done=true then[]else(kA l s w o).ob)=(js l s w o).ob
 | [],s,w,o,_,_,_,_=>by
  rw[js,kA]
  refine⟨rfl,rfl,rfl,?_⟩
  dsimp only
  split<;>rfl
 |f::r,s,w,o,v,h0,hw,h=>by
  have hwl:=(aW.1 hw)
  have hsl:=(aW.1 v.sn)
  rw[js,kA]
  by_cases hA:s.snd.left<bF f∨w.left<bF f
  · have hk:f.kind=2:=by
     refine Decidable.byContradiction fun hk=> ?_
     have e:bF f=0:=by unfold bF;rw[if_neg hk]
     rw[e]at hA
     omega
    rw[if_pos hA,if_pos ⟨hk,by rw[←ej hk];exact hA⟩]
    refine⟨rfl,rfl,rfl,?_⟩
    have hd:s.done=false:=by
     cases hd:s.done with
     |false=>rfl
     |true=>exact absurd h (nt hd)
    dsimp only
    rw[if_neg (by rw[hd];simp)]
  have h1:bF f≤s.snd.left:=by omega
  have h2:bF f≤w.left:=by omega
  obtain⟨g1,g2,_⟩:=qH v (fun hk=>by rw[←ej hk];exact h1) (fU.1 h).1
  obtain⟨g3,g4⟩:=qK v h0 h1 h g1
  have ht:=fL hw (iy f) h2
  have hw':bi (DQ w (bF f))=true:=np hw (iy f) h2
  have hww:(if f.kind=2 then(cA w (aG f.data)).win else w)=DQ w (bF f):=by
   split
   · rename_i hk
     rw[←ej hk,ht]
     rfl
   · rename_i hk
     have e:bF f=0:=by unfold bF;rw[if_neg hk]
     rw[e,GI]
  have hn1:¬ (f.kind=2∧(s.snd.left<aG f.data∨w.left<aG f.data)):=by
   rintro⟨hk,h9⟩
   rw[←ej hk]at h9
   exact hA h9
  rw[if_neg hn1,hww,if_neg hA,if_neg (show¬ (aZ s f).err≠0 by rw[g2];simp),if_neg (show¬ (cA w (bF f)).err≠0 by rw[ht];simp),ht]
  dsimp only
  cases hd:(aZ s f).st.done with
  |true=>
   rw[if_pos rfl,g4 hd,kA]
   refine⟨rfl,rfl,rfl,?_⟩
   dsimp only
   split<;>rfl
  |false=>
   rw[if_neg (by simp)]
   exact CC r (aZ s f).st (DQ w (bF f)) (o++[f]) (iQ g1) (by rw[g1.kept.hd];exact h0) hw' g3
end
section
open Go.RowKit
structure SS where
 V:NV
 F:Nat→Prop
 r:List aS
 st:bZ
 xo:Option Addr
 xoc:Nat
def EF(c:NL)(k:KR):FF:=kA k.ob k.st c.sw c.ou
def GJ(c:NL)(k:KR):KR:={k with st:=(EF c k).st,ob:=if(EF c k).st.done=true then[]else(EF c k).ob}
def jl(c:NL)(i:Nat)(k:KR):NL:={c with sw:=(EF c k).w,ou:=(EF c k).ou,ks:=c.ks.set i (GJ c k)}
structure IL(A:Nat→Prop)(w:World)(v:NV)(u:KV)(q:SS):Prop where
 eq:kA u.k.ob u.k.st v.c.sw v.c.ou=kA q.r q.st q.V.c.sw q.V.c.ou
 c:q.V.c={v.c with sw:=q.V.c.sw,ou:=q.V.c.ou}
 wf:fW q.V
 cap:q.r.length≤q.xoc
 nil:q.xo=none→q.xoc=0
 rows:Rws (fun b=>A b∧b<w.heap.size) w 4 fC q.xo q.r
 tx:q.st.text.size≤4611686018427387900
 fd:∀f∈q.r,f.data.size<4294967281
 ol:q.V.c.ou.length+q.r.length≤2000000000
 F:∀b,q.F b→A b∨w.heap.size≤b
theorem GK(x:bk)(n:Int)(t:pf)(h:cA x n=t)(w:World):Calls Tryz.prog 173 #[.agg #[.int .i64 x.size,.int .i64 x.left,.int .i64 x.held],.int .i64 n] w fun e w'=>e= .returned (.tuple #[.agg #[.int .i64 t.win.size,.int .i64 t.win.left,.int .i64 t.win.held],.int .i64 t.err])∧Below w.heap.size w w':=by
 subst h
 exact kX x n w
theorem vY(d:ByteArray)(n:Int)(h:aG d=n)(w:World):Calls Tryz.prog 112 #[.string d] w fun e w'=>e= .returned (.int .i64 n)∧Below w.heap.size w w':=by
 subst h
 exact jN d w
attribute [local irreducible] Calls
theorem lH{A:Nat→Prop}(v:NV)(i:Nat)(u:KV)(w:World)(hN:NOk A w v)(hw:fW v)(hat:v.kv[i]? =some u)(hkl:v.kv.length≤606626243774)(htx:u.k.st.text.size≤4611686018427387900)(hfd:∀f∈u.k.ob,f.data.size<4294967281)(hol:v.c.ou.length+u.k.ob.length≤2000000000):Calls Tryz.prog 126 #[.agg #[.int .i64 v.c.sd,.int .i64 v.c.nx,.int .i64 v.c.la,.int .i64 v.c.aw,.int .i64 v.c.sz,.int .i64 v.c.sw.size,.int .i64 v.c.sw.left,.int .i64 v.c.sw.held,.int .i64 v.c.rw.size,.int .i64 v.c.rw.left,.int .i64 v.c.rw.held,.slice v.x v.kv.length v.xc,.slice v.o v.c.ou.length v.oc,.slice v.p v.c.pg.length v.pc,.bool v.c.cl],.int .i64 ((i:Nat):Int)] w fun e w'=> ∃v':NV,v'.c=jl v.c i u.k∧e= .returned (.agg ⟨NC v'⟩)∧OutN A w w' v'∧fW v':=by
 refine ai Tryz.func126 rfl Tryz.ntmps126 J J ?_
 have hum:=List.mem_of_getElem? hat
 have hi:i<v.kv.length:=(List.getElem?_eq_some_iff.1 hat).1
 have hwu:=hw.k u hum
 obtain⟨bb,boff,hx,_,_,hrows⟩:=hN.ks (by omega)
 have hrow:w.rangeAt bb (boff+i * 22) (KC u):=hrows i u hat
 rw[hx]
 refine aD ?_
 refine ap ?_
 (refine bQ J J J J J J ?_;intro g2)
 (refine br ae J J J J J J ?_;intro g4)
 repeat' (first|refine vx rfl (ia (m:=22) i hi) ?_|refine vx rfl (rj (cs:=KC u) hrow) ?_|(refine al ?_;intro g5)|refine nx ?_)
 rw[←hx]
 refine kj (p:=True) (fun _ _=>trivial) fun _=> ?_
 refine⟨fun a w1 hS hM=> ?_⟩
 obtain⟨F0,hF0⟩:∃F0:Nat→Prop,F0=fun b=>((A b∧b<w.heap.size)∨w1.heap.size≤b)∧b<w1.heap.size:=⟨_,rfl⟩
 have hM1:=(nk hM hN).perm (List.perm_middle (l₁:=[_,_,_]) (l₂:=[])).symm
 rw[←hF0]at hM1
 refine SC.run (M:=[.cl g5 39 (KC ({u with k:={u.k with st:=(⟨v,F0,u.k.ob,u.k.st,u.o,u.oc⟩:SS).st,ob:=(⟨v,F0,u.k.ob,u.k.st,u.o,u.oc⟩:SS).r},o:=(⟨v,F0,u.k.ob,u.k.st,u.o,u.oc⟩:SS).xo,oc:=(⟨v,F0,u.k.ob,u.k.st,u.o,u.oc⟩:SS).xoc}:KV)),.cl g4 28 [.int .i64 0,.int .i64 0,.int .i64 0,.int .i64 0,.int .i64 0,.int .i64 0,.int .i64 0,.int .i64 0,.int .i64 0,.int .i64 0,.int .i64 0,.slice none 0 0,.slice none 0 0,.slice none 0 0,.bool false],.cl g2 28 (NC (⟨v,F0,u.k.ob,u.k.st,u.o,u.oc⟩:SS).V),.rep (⟨v,F0,u.k.ob,u.k.st,u.o,u.oc⟩:SS).F (fun w=>NOk (⟨v,F0,u.k.ob,u.k.st,u.o,u.oc⟩:SS).F w (⟨v,F0,u.k.ob,u.k.st,u.o,u.oc⟩:SS).V)]) ?_ a w1 hS hM1
 refine bT (σ:=SS) (IL A w v u) (fun _=>[(5,[],.pointer (some ⟨g5,0,none⟩)),(4,[],.pointer (some ⟨g4,0,none⟩)),(2,[],.pointer (some ⟨g2,0,none⟩)),(1,[],.int .i64 ((i:Nat):Int))]) (fun q=>[.cl g5 39 (KC ({u with k:={u.k with st:=q.st,ob:=q.r},o:=q.xo,oc:=q.xoc}:KV)),.cl g4 28 [.int .i64 0,.int .i64 0,.int .i64 0,.int .i64 0,.int .i64 0,.int .i64 0,.int .i64 0,.int .i64 0,.int .i64 0,.int .i64 0,.int .i64 0,.slice none 0 0,.slice none 0 0,.slice none 0 0,.bool false],.cl g2 28 (NC q.V),.rep q.F (fun w=>NOk q.F w q.V)]) (fun q=>q.r.length) ⟨v,F0,u.k.ob,u.k.st,u.o,u.oc⟩ [] ⟨rfl,rfl,hw,hwu.ol,hwu.o,((hN.lt.ok u hum).2.2),htx,hfd,hol,fun b hb=>by rw[hF0]at hb;exact hb.1.elim (fun h=> .inl h.1) (fun h=> .inr (Nat.le_trans hM.1.size h))⟩ ⟨J,J,J,J,trivial⟩ rfl ?_
 rintro⟨V,F,r,st,xo,xoc⟩ hI
 obtain⟨heq,hc,hwf,hcap,hnil,hrw,htx1,hfd1,hol1,hF⟩:=hI
 dsimp only at heq hc hwf hcap hnil hrw htx1 hfd1 hol1 hF
 obtain⟨b,hb⟩:∃b,qD V.c ({u with k:={u.k with st:=st,ob:=r},o:=xo,oc:=xoc}:KV).k=b:=⟨_,rfl⟩
 repeat' (first|refine cl (fun w hm=>Fc V ({u with k:={u.k with st:=st,ob:=r},o:=xo,oc:=xoc}:KV) b hb w (hrw.below hm.below)) ?_|refine nx ?_)
 by_cases hfit:b=true
 · obtain⟨f,r',rfl⟩:∃f r',r=f::r':=by
    cases r with
    |nil=>rw[←hb]at hfit;cases hfit
    |cons f r'=>exact⟨f,r',rfl⟩
   obtain⟨ob,oo,hxo,_,_,hrr⟩:=hrw (Nat.succ_pos _)
   subst hxo
   have hf:w.rangeAt ob (oo+0 * 4) (fC f):=hrr 0 f rfl
   have hl0:0<(f::r').length:=Nat.succ_pos _
   have hfd2:=hfd1 f (List.mem_cons_self ..)
   have hns:¬ (f.kind=2∧(st.snd.left<aG f.data∨V.c.sw.left<aG f.data)):=by
    rintro⟨hk,h9⟩
    rw[←hb]at hfit
    have h8:(f.kind !=2||(decide (aG f.data≤st.snd.left) &&decide (aG f.data≤V.c.sw.left)))=true:=hfit
    simp[hk]at h8
    omega
   rw[kA,if_neg hns]at heq
   obtain⟨r2,hr2⟩:∃r2,aZ st f=r2:=⟨_,rfl⟩
   rw[hr2]at heq
   have htx2:r2.st.text.size≤4611686018427387900:=by rw[←hr2];exact kY htx1 hfd2
   refine af rfl hfit ?_
   repeat' (first|refine vx rfl (ia (m:=4) 0 hl0) ?_|refine vx rfl (rj (cs:=fC f) hf) ?_|refine vx rfl (dQ ae 1 (r'.length+1) J J J J J J J J J J J (by omega) hcap) ?_|(refine al ?_;intro g6)|refine cl (fun w hm=>qC st f r2 hr2 w htx1 hfd2) ?_|refine nx ?_)
   by_cases hk:f.kind=2
   · rw[if_pos hk]at heq
     obtain⟨n,hn⟩:∃n,aG f.data=n:=⟨_,rfl⟩
     obtain⟨t,ht⟩:∃t,cA V.c.sw n=t:=⟨_,rfl⟩
     rw[hn,ht]at heq
     refine af rfl (by simpa using hk) ?_
     repeat' (first|refine cl (fun w hm=>vY f.data n hn w) ?_|refine cd (fun w hm=>vY f.data n hn w) ?_|refine cl (fun w hm=>GK V.c.sw n t ht w) ?_|refine cd (fun w hm=>GK V.c.sw n t ht w) ?_|refine ny ?_|refine nx ?_)
     intro g7
     repeat' refine nx ?_
     refine aR (eS 6 hF rfl) (fun w1 hm=>eN (⟨{V.c with sw:=t.win},V.x,V.xc,V.kv,V.o,V.oc,V.p,V.pc⟩:NV) f w1 (lW (hm.2.get (i:=6) rfl).2.1 _ J J J) ⟨hwf.x,hwf.o,hwf.p,hwf.xl,hwf.ol,hwf.pl,hwf.k⟩ (show V.c.ou.length≤2000000000 by omega)) ?_
     rintro V1 F1 hc1 hw1 hF1
     repeat' refine nx ?_
     refine gE (M':=[.cl g5 39 (KC ({u with k:={u.k with st:=(⟨V1,F1,r',r2.st,fV (some ⟨ob,oo,none⟩) xoc 4,xoc-1⟩:SS).st,ob:=(⟨V1,F1,r',r2.st,fV (some ⟨ob,oo,none⟩) xoc 4,xoc-1⟩:SS).r},o:=(⟨V1,F1,r',r2.st,fV (some ⟨ob,oo,none⟩) xoc 4,xoc-1⟩:SS).xo,oc:=(⟨V1,F1,r',r2.st,fV (some ⟨ob,oo,none⟩) xoc 4,xoc-1⟩:SS).xoc}:KV)),.cl g4 28 [.int .i64 0,.int .i64 0,.int .i64 0,.int .i64 0,.int .i64 0,.int .i64 0,.int .i64 0,.int .i64 0,.int .i64 0,.int .i64 0,.int .i64 0,.slice none 0 0,.slice none 0 0,.slice none 0 0,.bool false],.cl g2 28 (NC (⟨V1,F1,r',r2.st,fV (some ⟨ob,oo,none⟩) xoc 4,xoc-1⟩:SS).V),.rep (⟨V1,F1,r',r2.st,fV (some ⟨ob,oo,none⟩) xoc 4,xoc-1⟩:SS).F (fun w=>NOk (⟨V1,F1,r',r2.st,fV (some ⟨ob,oo,none⟩) xoc 4,xoc-1⟩:SS).F w (⟨V1,F1,r',r2.st,fV (some ⟨ob,oo,none⟩) xoc 4,xoc-1⟩:SS).V)]) (fun w1 hM=>(hM.mask [true,false,false,false,true,true,true,false] rfl).perm (List.perm_middle (l₁:=[_,_,_]) (l₂:=[])).symm) ?_
     refine aY (⟨V1,F1,r',r2.st,fV (some ⟨ob,oo,none⟩) xoc 4,xoc-1⟩:SS) [] ⟨?_,?_,hw1,?_,?_,ld hrw hcap,htx2,fun g hg=>hfd1 g (List.mem_cons_of_mem _ hg),?_,hF1⟩ (show r'.length<(f::r').length by simp) ⟨J,J,J,J,trivial⟩ rfl
     · dsimp only;rw[hc1];exact heq
     · have h9:=congrArg (fun c:NL=>({c with sw:=t.win,ou:=V.c.ou++[f]}:NL)) hc
       dsimp only
       rw[hc1]
       exact h9
     · dsimp only;rw[List.length_cons]at hcap;omega
     · intro h;unfold fV at h;split at h<;>cases h
     · have h9:V1.c.ou.length=V.c.ou.length+1:=by rw[hc1];dsimp only;rw[List.length_append,List.length_singleton]
       rw[List.length_cons]at hol1
       dsimp only
       omega
   · rw[if_neg hk]at heq
     refine aa rfl (by simpa using hk) ?_
     repeat' refine nx ?_
     refine aR (eS 5 hF rfl) (fun w1 hm=>eN (⟨{V.c with sw:=V.c.sw},V.x,V.xc,V.kv,V.o,V.oc,V.p,V.pc⟩:NV) f w1 (lW (hm.2.get (i:=5) rfl).2.1 _ J J J) ⟨hwf.x,hwf.o,hwf.p,hwf.xl,hwf.ol,hwf.pl,hwf.k⟩ (show V.c.ou.length≤2000000000 by omega)) ?_
     rintro V1 F1 hc1 hw1 hF1
     repeat' refine nx ?_
     refine gE (M':=[.cl g5 39 (KC ({u with k:={u.k with st:=(⟨V1,F1,r',r2.st,fV (some ⟨ob,oo,none⟩) xoc 4,xoc-1⟩:SS).st,ob:=(⟨V1,F1,r',r2.st,fV (some ⟨ob,oo,none⟩) xoc 4,xoc-1⟩:SS).r},o:=(⟨V1,F1,r',r2.st,fV (some ⟨ob,oo,none⟩) xoc 4,xoc-1⟩:SS).xo,oc:=(⟨V1,F1,r',r2.st,fV (some ⟨ob,oo,none⟩) xoc 4,xoc-1⟩:SS).xoc}:KV)),.cl g4 28 [.int .i64 0,.int .i64 0,.int .i64 0,.int .i64 0,.int .i64 0,.int .i64 0,.int .i64 0,.int .i64 0,.int .i64 0,.int .i64 0,.int .i64 0,.slice none 0 0,.slice none 0 0,.slice none 0 0,.bool false],.cl g2 28 (NC (⟨V1,F1,r',r2.st,fV (some ⟨ob,oo,none⟩) xoc 4,xoc-1⟩:SS).V),.rep (⟨V1,F1,r',r2.st,fV (some ⟨ob,oo,none⟩) xoc 4,xoc-1⟩:SS).F (fun w=>NOk (⟨V1,F1,r',r2.st,fV (some ⟨ob,oo,none⟩) xoc 4,xoc-1⟩:SS).F w (⟨V1,F1,r',r2.st,fV (some ⟨ob,oo,none⟩) xoc 4,xoc-1⟩:SS).V)]) (fun w1 hM=>(hM.mask [true,false,false,true,true,true,false] rfl).perm (List.perm_middle (l₁:=[_,_,_]) (l₂:=[])).symm) ?_
     refine aY (⟨V1,F1,r',r2.st,fV (some ⟨ob,oo,none⟩) xoc 4,xoc-1⟩:SS) [] ⟨?_,?_,hw1,?_,?_,ld hrw hcap,htx2,fun g hg=>hfd1 g (List.mem_cons_of_mem _ hg),?_,hF1⟩ (show r'.length<(f::r').length by simp) ⟨J,J,J,J,trivial⟩ rfl
     · dsimp only;rw[hc1];exact heq
     · have h9:=congrArg (fun c:NL=>({c with sw:=V.c.sw,ou:=V.c.ou++[f]}:NL)) hc
       dsimp only
       rw[hc1]
       exact h9
     · dsimp only;rw[List.length_cons]at hcap;omega
     · intro h;unfold fV at h;split at h<;>cases h
     · have h9:V1.c.ou.length=V.c.ou.length+1:=by rw[hc1];dsimp only;rw[List.length_append,List.length_singleton]
       rw[List.length_cons]at hol1
       dsimp only
       omega
 · have hbf:qD V.c ({u with k:={u.k with st:=st,ob:=r},o:=xo,oc:=xoc}:KV).k=false:=by rw[hb];exact eq_false_of_ne_true hfit
   have hstop:kA r st V.c.sw V.c.ou=⟨st,V.c.sw,r,V.c.ou⟩:=by
    cases r with
    |nil=>rw[kA]
    |cons f r'=>
     have h8:(f.kind !=2||(decide (aG f.data≤st.snd.left) &&decide (aG f.data≤V.c.sw.left)))=false:=hbf
     rw[kA,if_pos]
     simp only[Bool.or_eq_false_iff,bne_eq_false_iff_eq,Bool.and_eq_false_iff,decide_eq_false_iff_not]at h8
     exact⟨h8.1,by omega⟩
   rw[hstop]at heq
   have hR:EF v.c u.k=⟨st,V.c.sw,r,V.c.ou⟩:=heq
   refine kj (p:=V.c.ks=V.kv.map (·.k)) (fun w1 hM=>(hM.2.get (i:=3) rfl).2.1.eq) fun heqV=> ?_
   have hks:V.c.ks=v.c.ks:=by rw[hc]
   have hlv:V.kv.length=v.kv.length:=by
    have h9:=congrArg List.length (heqV.symm.trans (hks.trans hN.eq))
    rw[List.length_map,List.length_map]at h9
    exact h9
   refine aa rfl (eq_false_of_ne_true hfit) ?_
   repeat' refine nx ?_
   by_cases hd:st.done=true
   · have hcr:jl v.c i u.k={V.c with ks:=V.c.ks.set i ({u with k:={u.k with st:=st,ob:=[]},o:=none,oc:=0}:KV).k}:=by
      unfold jl GJ
      rw[hR]
      dsimp only
      rw[if_pos hd,hks]
      exact(congrArg (fun c:NL=>({c with ks:=v.c.ks.set i ({u with k:={u.k with st:=st,ob:=[]},o:=none,oc:=0}:KV).k}:NL)) hc).symm
     refine af rfl hd ?_
     repeat' refine nx ?_
     refine aR (lD 3 hF rfl) (fun w1 hm=>eB V i ({u with k:={u.k with st:=st,ob:=[]},o:=none,oc:=0}:KV) w1 ((hm.2.get (i:=3) rfl).2.1.mono fun _=> .inl) hwf (by omega) (by omega) ⟨(((hN.lt.ok u hum).below hm.below).1.mono fun _=> .inr),(((hN.lt.ok u hum).below hm.below).2.1.mono fun _=> .inr),bV⟩ ⟨hwu.i,fun _=>rfl,hwu.m,hwu.il,Nat.zero_le _⟩) ?_
     rintro V2 F2 hc2 hw2 hF2
     repeat' refine nx ?_
     (refine rt ?_;refine fun w1 hm=>⟨V2,hc2.trans hcr.symm,rfl,aL (hm.2.get (i:=0) rfl).2.1 hF2 hm.below,hw2⟩)
   · have hcr:jl v.c i u.k={V.c with ks:=V.c.ks.set i ({u with k:={u.k with st:=st,ob:=r},o:=xo,oc:=xoc}:KV).k}:=by
      unfold jl GJ
      rw[hR]
      dsimp only
      rw[if_neg hd,hks]
      exact(congrArg (fun c:NL=>({c with ks:=v.c.ks.set i ({u with k:={u.k with st:=st,ob:=r},o:=xo,oc:=xoc}:KV).k}:NL)) hc).symm
     refine aa rfl (eq_false_of_ne_true hd) ?_
     repeat' refine nx ?_
     refine aR (lD 3 hF rfl) (fun w1 hm=>eB V i ({u with k:={u.k with st:=st,ob:=r},o:=xo,oc:=xoc}:KV) w1 ((hm.2.get (i:=3) rfl).2.1.mono fun _=> .inl) hwf (by omega) (by omega) ⟨(((hN.lt.ok u hum).below hm.below).1.mono fun _=> .inr),(((hN.lt.ok u hum).below hm.below).2.1.mono fun _=> .inr),((hrw.below hm.below).mono fun _ h=> .inr h)⟩ ⟨hwu.i,hnil,hwu.m,hwu.il,hcap⟩) ?_
     rintro V2 F2 hc2 hw2 hF2
     repeat' refine nx ?_
     (refine rt ?_;refine fun w1 hm=>⟨V2,hc2.trans hcr.symm,rfl,aL (hm.2.get (i:=0) rfl).2.1 hF2 hm.below,hw2⟩)
end
end Go.Proofs.YthiocbcokfondaaGreatDoor.Y
