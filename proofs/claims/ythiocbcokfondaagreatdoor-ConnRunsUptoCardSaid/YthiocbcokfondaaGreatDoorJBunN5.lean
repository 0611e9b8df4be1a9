import Derived.Test.YthiocbcokfondaaGreatDoorJBunN3
set_option maxRecDepth 100000
set_option maxHeartbeats 32000000
namespace Go.Proofs.YthiocbcokfondaaGreatDoor.Y
section
open Go.RowKit
def qW(k:KR)(f:aS):Int:=(aZ (cQ k.ob k.st).st f).err
def jm(c:NL)(i:Nat)(k:KR)(f:aS):NL×Int:=
 if qW k f≠0 then(c,qW k f)else(jl {c with ks:=c.ks.set i {k with ob:=k.ob++[f]}} i {k with ob:=k.ob++[f]},0)
attribute [local irreducible] Calls
theorem oF{A:Nat→Prop}(v:NV)(i:Nat)(u:KV)(f:aS)(w:World)(hN:NOk A w v)(hw:fW v)(hat:v.kv[i]? =some u)(hkl:v.kv.length≤606626243774)(htx:u.k.st.text.size≤4611686018427387900)(hfd:∀f∈u.k.ob,f.data.size<4294967281)(hff:f.data.size<4294967281)(hol:v.c.ou.length+u.k.ob.length≤1000000000):Calls Tryz.prog 113 #[.agg #[.int .i64 v.c.sd,.int .i64 v.c.nx,.int .i64 v.c.la,.int .i64 v.c.aw,.int .i64 v.c.sz,.int .i64 v.c.sw.size,.int .i64 v.c.sw.left,.int .i64 v.c.sw.held,.int .i64 v.c.rw.size,.int .i64 v.c.rw.left,.int .i64 v.c.rw.held,.slice v.x v.kv.length v.xc,.slice v.o v.c.ou.length v.oc,.slice v.p v.c.pg.length v.pc,.bool v.c.cl],.int .i64 ((i:Nat):Int),.agg #[.int .i64 f.kind,.int .i64 f.strm,.int .i64 f.num,.string f.data]] w fun e w'=> ∃v':NV,v'.c=(jm v.c i u.k f).1∧e= .returned (.tuple #[.agg ⟨NC v'⟩,.int .i64 (jm v.c i u.k f).2])∧OutN A w w' v'∧fW v':=by
 refine ai Tryz.func113 rfl Tryz.ntmps113 J J ?_
 have hum:=List.mem_of_getElem? hat
 have hi:i<v.kv.length:=(List.getElem?_eq_some_iff.1 hat).1
 have hwu:=hw.k u hum
 obtain⟨bb,boff,hx,_,_,hrows⟩:=hN.ks (by omega)
 have hrow:w.rangeAt bb (boff+i * 22) (KC u):=hrows i u hat
 obtain⟨r,hr⟩:∃r,cQ u.k.ob u.k.st=r:=⟨_,rfl⟩
 obtain⟨r2,hr2⟩:∃r2,aZ r.st f=r2:=⟨_,rfl⟩
 have hrt:r.st.text.size≤4611686018427387900:=by rw[←hr];exact ni _ _ htx hfd
 have hqe:qW u.k f=r2.err:=by unfold qW;rw[hr,hr2]
 have hO:=(hN.ok u hum).2.2
 rw[hx]
 refine aD ?_
 refine ap ?_
 (refine bQ J J J J J J ?_;intro g3)
 (refine bQ J J J J J J ?_;intro g5)
 (refine br ae J J J J J J ?_;intro g6)
 repeat' (first|refine vx rfl (ia (m:=22) i hi) ?_|refine vx rfl (rj (cs:=KC u) hrow) ?_|(refine al ?_;intro g8)|refine cl (fun w hm=>Gs u r hr w (hO.below hm.below) (by omega) htx hfd) ?_|refine cl (fun w hm=>qC r.st f r2 hr2 w hrt hff) ?_|refine nx ?_)
 rw[←hx]
 by_cases he:r2.err=0
 rotate_left
 · have hg:jm v.c i u.k f=(v.c,r2.err):=by unfold jm;rw[hqe,if_pos he]
   refine af rfl (by simpa using he) ?_
   repeat' refine nx ?_
   (refine rt ?_;refine fun w1 hm=>⟨v,?_,?_,OutN.same hN hm.below,hw⟩)
   · rw[hg]
   · rw[hg];rfl
 refine aa rfl (by simpa using he) ?_
 repeat' refine nx ?_
 refine kR 65 4 ?_
 refine gI u.k.ob ae 0 J J J J J J J J J (fun _ _=>rfl) fP hwu.o dy EE (fun w1 hm=>⟨_,hO.below hm.below⟩) (by unfold maxLen;omega) (by omega) J J ?_
 intro sa sc
 repeat' (first|(refine cc ae J J J ⟨J,trivial⟩ J J J J J J J J ?_;intro g)|(refine bB ae 1 0 J J J J J J J J J (fun _ _=>rfl) fP J J (by unfold maxLen;omega) (by omega) J J ?_;intro sb sd)|refine nx ?_)
 have hlq:0+u.k.ob.length+1=(u.k.ob++[f]).length:=by simp
 have hfl:[]++u.k.ob.flatMap fC++fC f=(u.k.ob++[f]).flatMap fC:=by simp
 rw[hlq]
 refine pD (A:=A) 1 (u.k.ob++[f]) dy J J hfl fun hs1 hs2 hs3=> ?_
 refine aR (lD (A:=A) 0 hs3 rfl) (fun w1 hm=>eB v i ({u with k:={u.k with ob:=u.k.ob++[f]},o:=sb,oc:=sd}:KV) w1 ((hN.lt.below hm.below).mono fun _=> .inr) hw hi hkl ⟨(((hN.lt.ok u hum).below hm.below).1.mono fun _=> .inr),(((hN.lt.ok u hum).below hm.below).2.1.mono fun _=> .inr),(hm.2.get (i:=0) rfl).2.1.mono fun _=> .inl⟩ ⟨hwu.i,hs1,hwu.m,hwu.il,hs2⟩) ?_
 rintro V1 F1 hc1 hw1 hF1
 refine df (p:=V1.c.ks=V1.kv.map (·.k)) (fun w1 hM=>(hM.2.get (i:=0) rfl).2.1.eq) fun heq1=> ?_
 have hlk:i<v.c.ks.length:=by rw[hN.eq,List.length_map];exact hi
 have hl1:V1.kv.length=v.kv.length:=by
  have h9:=congrArg List.length heq1
  rw[hc1]at h9
  dsimp only at h9
  rw[List.length_set,List.length_map,hN.eq,List.length_map]at h9
  exact h9.symm
 obtain⟨u1,hat1,h1k⟩:∃u1,V1.kv[i]? =some u1∧u1.k=({u with k:={u.k with ob:=u.k.ob++[f]},o:=sb,oc:=sd}:KV).k:=by
  have h9:(V1.kv.map (·.k))[i]? =some ({u with k:={u.k with ob:=u.k.ob++[f]},o:=sb,oc:=sd}:KV).k:=by rw[←heq1,hc1];dsimp only;rw[List.getElem?_set_self hlk]
  rw[List.getElem?_map]at h9
  simpa using h9
 repeat' refine nx ?_
 refine aR (eS 0 hF1 rfl) (fun w1 hm=>lH V1 i u1 w1 (hm.2.get (i:=0) rfl).2.1 hw1 hat1 (by omega) (by rw[h1k];exact htx) (by rw[h1k];intro g hg;rcases List.mem_append.1 hg with h|h;exact hfd g h;rw[List.mem_singleton.1 h];exact hff) (by rw[h1k,hc1];show v.c.ou.length+(u.k.ob++[f]).length≤2000000000;rw[←hlq];omega)) ?_
 rintro V2 F2 hc2 hw2 hF2
 have hg:jm v.c i u.k f=(V2.c,0):=by
  unfold jm
  rw[hqe,if_neg (by rw[he];simp),hc2,hc1,h1k]
 rw[hg]
 repeat' refine nx ?_
 (refine rt ?_;refine fun w1 hm=>⟨V2,rfl,rfl,aL (hm.2.get (i:=0) rfl).2.1 hF2 hm.below,hw2⟩)
end
section
open Go.RowKit
def lf(c:NL)(id:Int)(msg:ByteArray):NL×Int:=match bX id c.ks 0 with
 |none=>(c,10)
 |some i=>if lN c msg≠0 then(c,3)else jm c i (iU c i) ⟨2,id,0,msg⟩
def nE(c:NL)(id:Int):NL×Int:=match bX id c.ks 0 with
 |none=>(c,10)
 |some i=>jm c i (iU c i) ⟨3,id,0,emptyB⟩
attribute [local irreducible] Calls
theorem Ak{A:Nat→Prop}(v:NV)(id:Int)(w:World)(hN:NOk A w v)(hw:fW v)(hz:rk v)(hgd:vp v)(hol:v.c.ou.length≤500000000)(hob:∀u∈v.kv,u.k.ob.length≤500000000):Calls Tryz.prog 57 #[.agg ⟨NC v⟩,.int .i64 id] w fun e w'=> ∃v':NV,v'.c=(nE v.c id).1∧e= .returned (.tuple #[.agg ⟨NC v'⟩,.int .i64 (nE v.c id).2])∧OutN A w w' v'∧fW v':=by
 refine ai Tryz.func57 rfl Tryz.ntmps57 J J ?_
 have hzk:=hz.ks
 obtain⟨o,ho⟩:∃o,bX id v.c.ks 0=o:=⟨_,rfl⟩
 repeat' (first|(refine bx ?_;intro g3)|(refine al ?_;intro g5)|refine cl (fun w hm=>qE v id o w (hN.below hm.below) (by omega) ho) ?_|refine nx ?_)
 cases o with
 |none=>
  have hg:nE v.c id=(v.c,10):=by unfold nE;rw[ho]
  refine af J J ?_
  repeat' refine nx ?_
  (refine rt ?_;refine fun w1 hm=>⟨v,?_,?_,OutN.same hN hm.below,hw⟩)
  · rw[hg]
  · rw[hg];rfl
 |some i=>
  obtain⟨q,hq,_⟩:=dR ho
  obtain⟨u,hu,huk⟩:∃u,v.kv[i]? =some u∧u.k=q:=by rw[hN.eq,List.getElem?_map]at hq;simpa using hq
  subst huk
  have hat:=gB hN.eq hu
  have hum:=List.mem_of_getElem? hu
  have htx:=hgd.tx u hum
  have hfr:=hgd.fr u hum
  have hob1:=hob u hum
  refine aa rfl (decide_eq_false (show¬ ((i:Nat):Int)<0 by omega)) ?_
  have hg:nE v.c id=(jm v.c i u.k (⟨3,id,0,emptyB⟩:aS)):=by unfold nE;rw[ho];dsimp only;rw[hat]
  rw[hg]
  repeat' refine nx ?_
  refine aR bd (fun w1 hm=>oF v i u (⟨3,id,0,emptyB⟩:aS) w1 (hN.lt.below hm.below) hw hu (by omega) htx hfr (show(0:Nat)<4294967281 by decide) (by omega)) ?_
  rintro V1 F hc1 hw1 hF
  repeat' refine nx ?_
  (refine rt ?_;refine fun w1 hm=>⟨V1,hc1,rfl,aL (hm.2.get (i:=0) rfl).2.1 hF hm.below,hw1⟩)
theorem Al{A:Nat→Prop}(v:NV)(id:Int)(msg:ByteArray)(w:World)(hN:NOk A w v)(hw:fW v)(hz:rk v)(hgd:vp v)(hol:v.c.ou.length≤500000000)(hob:∀u∈v.kv,u.k.ob.length≤500000000):Calls Tryz.prog 56 #[.agg ⟨NC v⟩,.int .i64 id,.string msg] w fun e w'=> ∃v':NV,v'.c=(lf v.c id msg).1∧e= .returned (.tuple #[.agg ⟨NC v'⟩,.int .i64 (lf v.c id msg).2])∧OutN A w w' v'∧fW v':=by
 refine ai Tryz.func56 rfl Tryz.ntmps56 J J ?_
 have hzk:=hz.ks
 obtain⟨o,ho⟩:∃o,bX id v.c.ks 0=o:=⟨_,rfl⟩
 repeat' (first|(refine bx ?_;intro g3)|(refine al ?_;intro g5)|refine cl (fun w hm=>qE v id o w (hN.below hm.below) (by omega) ho) ?_|refine nx ?_)
 cases o with
 |none=>
  have hg:lf v.c id msg=(v.c,10):=by unfold lf;rw[ho]
  refine af J J ?_
  repeat' refine nx ?_
  (refine rt ?_;refine fun w1 hm=>⟨v,?_,?_,OutN.same hN hm.below,hw⟩)
  · rw[hg]
  · rw[hg];rfl
 |some i=>
  obtain⟨q,hq,_⟩:=dR ho
  obtain⟨u,hu,huk⟩:∃u,v.kv[i]? =some u∧u.k=q:=by rw[hN.eq,List.getElem?_map]at hq;simpa using hq
  subst huk
  have hat:=gB hN.eq hu
  have hum:=List.mem_of_getElem? hu
  have htx:=hgd.tx u hum
  have hfr:=hgd.fr u hum
  have hob1:=hob u hum
  refine aa rfl (decide_eq_false (show¬ ((i:Nat):Int)<0 by omega)) ?_
  obtain⟨n,hn⟩:∃n,aG msg=n:=⟨_,rfl⟩
  have hwe:lN v.c msg=if 16384<msg.size∨v.c.sz<n then 3 else 0:=by unfold lN;rw[hn]
  repeat' (first|refine cl (fun w hm=>vY msg n hn w) ?_|refine cd (fun w hm=>vY msg n hn w) ?_|refine ny ?_|refine nx ?_)
  by_cases hb:16384<msg.size∨v.c.sz<n
  · have hg:lf v.c id msg=(v.c,3):=by unfold lf;rw[ho];dsimp only;rw[hwe,if_pos hb,if_pos (by decide)]
    refine af rfl (by simp only[Bool.or_eq_true,decide_eq_true_eq];omega) ?_
    repeat' refine nx ?_
    (refine rt ?_;refine fun w1 hm=>⟨v,?_,?_,OutN.same hN hm.below,hw⟩)
    · rw[hg]
    · rw[hg];rfl
  have hg:lf v.c id msg=(jm v.c i u.k (⟨2,id,0,msg⟩:aS)):=by unfold lf;rw[ho];dsimp only;rw[hwe,if_neg hb,if_neg (by simp),hat]
  rw[hg]
  refine aa rfl (by simp only[Bool.or_eq_false_iff,decide_eq_false_iff_not];omega) ?_
  repeat' refine nx ?_
  refine aR bd (fun w1 hm=>oF v i u (⟨2,id,0,msg⟩:aS) w1 (hN.lt.below hm.below) hw hu (by omega) htx hfr (show msg.size<4294967281 by omega) (by omega)) ?_
  rintro V1 F hc1 hw1 hF
  repeat' refine nx ?_
  (refine rt ?_;refine fun w1 hm=>⟨V1,hc1,rfl,aL (hm.2.get (i:=0) rfl).2.1 hF hm.below,hw1⟩)
end
section
open Go.RowKit
attribute [local irreducible] Calls
theorem Am{A:Nat→Prop}(v:NV)(w:World)(hN:NOk A w v)(hw:fW v):Calls Tryz.prog 62 #[.agg ⟨NC v⟩] w fun e w'=> ∃v':NV,v'.c=(kD v.c).1∧e= .returned (.tuple #[.agg ⟨NC v'⟩,.slice v.o v.c.ou.length v.oc])∧OutN A w w' v'∧fW v':=by
 refine ai Tryz.func62 rfl Tryz.ntmps62 J J ?_
 repeat' (first|(refine bx ?_;intro g1)|(refine al ?_;intro g2)|refine nx ?_)
 (refine rt ?_;refine fun w1 hm=>⟨⟨{v.c with ou:=[]},v.x,v.xc,v.kv,none,0,v.p,v.pc⟩,rfl,rfl,⟨⟨(hN.ks.below hm.below).mono fun _=> .inl,bV,(hN.pg.below hm.below).mono fun _=> .inl,hN.eq,fun u hu=>((hN.ok u hu).below hm.below).mono fun _=> .inl⟩,hm.below⟩,⟨hw.x,fun _=>rfl,hw.p,hw.xl,Nat.zero_le _,hw.pl,hw.k⟩⟩)
theorem An{A:Nat→Prop}(v:NV)(w:World)(hN:NOk A w v)(hw:fW v)(hol:v.c.ou.length≤2000000000)(hla:v.c.la≤4611686018427387904∧ -1≤v.c.la):Calls Tryz.prog 64 #[.agg ⟨NC v⟩] w fun e w'=> ∃v':NV,v'.c=iK v.c∧e= .returned (.agg ⟨NC v'⟩)∧OutN A w w' v'∧fW v':=by
 refine ai Tryz.func64 rfl Tryz.ntmps64 J J ?_
 repeat' (first|(refine bx ?_;intro g1)|(refine al ?_;intro g2)|refine nx ?_)
 by_cases hc:v.c.sd=2∧v.c.cl=false∧v.c.aw=0
 · have ha:iK v.c={v.c with ou:=v.c.ou++[(⟨9,0,v.c.la,emptyB⟩:aS)],aw:=v.c.la+1}:=by unfold iK;rw[if_pos hc]
   obtain⟨h1,h2,h3⟩:=hc
   refine aa rfl (by rw[h1,h2,h3];rfl) ?_
   repeat' (first|refine vx rfl (bm J J J J J (by omega)) ?_|refine nx ?_)
   refine aR bd (fun w1 hm=>eN (⟨{v.c with aw:=v.c.la+1},v.x,v.xc,v.kv,v.o,v.oc,v.p,v.pc⟩:NV) (⟨9,0,v.c.la,emptyB⟩:aS) w1 (lW (hN.lt.below hm.below) _ J J J) ⟨hw.x,hw.o,hw.p,hw.xl,hw.ol,hw.pl,hw.k⟩ hol) ?_
   rintro V1 F hc1 hw1 hF
   repeat' refine nx ?_
   (refine rt ?_;refine fun w1 hm=>⟨V1,hc1.trans ha.symm,rfl,aL (hm.2.get (i:=0) rfl).2.1 hF hm.below,hw1⟩)
 · have ha:iK v.c=v.c:=by unfold iK;rw[if_neg hc]
   refine af rfl (by
    cases h1:(v.c.sd !=2)with
    |true=>rfl
    |false=>
     cases h2:v.c.cl with
     |true=>rfl
     |false=>
      cases h3:(v.c.aw !=0)with
      |true=>rfl
      |false=>exact absurd ⟨by simpa using h1,h2,by simpa using h3⟩ hc) ?_
   repeat' refine nx ?_
   (refine rt ?_;refine fun w1 hm=>⟨v,ha.symm,rfl,OutN.same hN hm.below,hw⟩)
theorem Ao{A:Nat→Prop}(v:NV)(n:Int)(w:World)(hN:NOk A w v)(hw:fW v)(hol:v.c.ou.length≤2000000000):Calls Tryz.prog 63 #[.agg ⟨NC v⟩,.int .i64 n] w fun e w'=> ∃v':NV,v'.c=(eE v.c n).1∧e= .returned (.tuple #[.agg ⟨NC v'⟩,.int .i64 (eE v.c n).2])∧OutN A w w' v'∧fW v':=by
 refine ai Tryz.func63 rfl Tryz.ntmps63 J J ?_
 have hez:emptyB.size<4294967281:=show(0:Nat)<4294967281 by decide
 obtain⟨ef,hef⟩:∃x,aA (⟨7,0,n,emptyB⟩:aS)=x:=⟨_,rfl⟩
 repeat' (first|(refine bx ?_;intro g2)|(refine al ?_;intro g4)|refine nx ?_)
 by_cases hcl:v.c.cl=true
 · have hp:eE v.c n=(v.c,20):=by unfold eE;rw[if_pos hcl]
   refine af rfl hcl ?_
   repeat' refine nx ?_
   (refine rt ?_;refine fun w1 hm=>⟨v,?_,?_,OutN.same hN hm.below,hw⟩)
   · rw[hp]
   · rw[hp];rfl
 refine aa rfl (eq_false_of_ne_true hcl) ?_
 repeat' (first|(refine al ?_;intro g6)|refine cl (fun w hm=>xe (⟨7,0,n,emptyB⟩:aS) ef hef w hez) ?_|refine nx ?_)
 by_cases he:ef=0
 rotate_left
 · have hp:eE v.c n=(v.c,ef):=by unfold eE;rw[if_neg hcl,hef,if_pos he]
   refine af rfl (by simpa using he) ?_
   repeat' refine nx ?_
   (refine rt ?_;refine fun w1 hm=>⟨v,?_,?_,OutN.same hN hm.below,hw⟩)
   · rw[hp]
   · rw[hp];rfl
 have hp:eE v.c n=({v.c with ou:=v.c.ou++[(⟨7,0,n,emptyB⟩:aS)]},0):=by unfold eE;rw[if_neg hcl,hef,if_neg (by simpa using he)]
 rw[hp]
 refine aa rfl (by simpa using he) ?_
 repeat' refine nx ?_
 refine aR bd (fun w1 hm=>eN (⟨v.c,v.x,v.xc,v.kv,v.o,v.oc,v.p,v.pc⟩:NV) (⟨7,0,n,emptyB⟩:aS) w1 (lW (hN.lt.below hm.below) _ J J J) ⟨hw.x,hw.o,hw.p,hw.xl,hw.ol,hw.pl,hw.k⟩ hol) ?_
 rintro V1 F hc1 hw1 hF
 repeat' refine nx ?_
 (refine rt ?_;refine fun w1 hm=>⟨V1,hc1,rfl,aL (hm.2.get (i:=0) rfl).2.1 hF hm.below,hw1⟩)
end
end Go.Proofs.YthiocbcokfondaaGreatDoor.Y
