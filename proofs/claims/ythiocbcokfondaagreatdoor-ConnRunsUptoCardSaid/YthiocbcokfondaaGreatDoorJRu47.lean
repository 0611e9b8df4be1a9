import Derived.Test.YthiocbcokfondaaGreatDoorJBunN12
set_option maxRecDepth 100000
set_option maxHeartbeats 32000000
namespace Go.Proofs.YthiocbcokfondaaGreatDoor.Y
open Go.RowKit
theorem rv{a b:Prop}(h:b)(r:b→a:=by exact ji rfl vv J J J):a:=r h
theorem AB{F O:Nat→Prop}{w1 w2:World}{s:NV}{x:Option Addr}{l:List aS}(h:OutN F w1 w2 s)(h4:Rws (fun b=>F b∨w1.heap.size≤b) w2 4 fC x l)(hO:∀b,F b→O b):∃Fs:Nat→Prop,∃g:Nat→Prop,MemL w1.heap.size w2 [.rep Fs (fun w=>NOk Fs w s∧Rws Fs w 4 fC x l)]∧(∀f∈ [Ent.rep Fs (fun w=>NOk Fs w s∧Rws Fs w 4 fC x l)],∀b,f.mut b→g b)∧(∀f∈ [Ent.rep Fs (fun w=>NOk Fs w s∧Rws Fs w 4 fC x l)],∀b,f.foot b→g b∨O b)∧(∀b,g b→w1.heap.size≤b∧b<w2.heap.size)∧ ∀b,Fs b→F b∨w1.heap.size≤b:=by
 refine⟨fun b=>(F b∨w1.heap.size≤b)∧b<w2.heap.size,fun b=>w1.heap.size≤b∧b<w2.heap.size,⟨⟨fun _ h=>h.2,⟨h.1.lt,h4.lt⟩,fun w3 w4 hk h=>⟨h.1.agree hk,h.2.agree hk⟩⟩,fun f hf=>(by cases hf),trivial⟩,fun f hf b hm=> ?_,fun f hf b hm=> ?_,fun _ h=>h,fun b hb=>hb.1⟩
 · obtain rfl:=List.mem_singleton.1 hf
   exact hm.elim
 · obtain rfl:=List.mem_singleton.1 hf
   have hm':(F b∨w1.heap.size≤b)∧b<w2.heap.size:=hm
   rcases hm'.1 with h|h
   · exact .inr (hO b h)
   · exact .inl ⟨h,hm'.2⟩
theorem VN.szv{v:NV}(h:VN v.c)(heq:v.c.ks=v.kv.map (·.k)):G5 v:=by
 have h1:=aW.1 h.rw
 have h2:=h.tt
 have hm:∀u∈v.kv,u.k∈v.c.ks:=fun u hu=>by rw[heq];exact List.mem_map_of_mem hu
 exact⟨fun u hu=>by have:=nA (hm u hu);omega,by omega,fun u hu=>(EB (h.pk u.k (hm u hu)).he).1,fun f hf=>by have:=(eT (h.ou f hf)).1;omega⟩
theorem GU{A A':Nat→Prop}(v v':NV)(he:v'.c=v.c)(w:World)(hN:NOk A w v)(hN':NOk A' w v')(hz:rk v):Calls Tryz.prog 12 #[.agg #[.int .i64 v.c.sd,.int .i64 v.c.nx,.int .i64 v.c.la,.int .i64 v.c.aw,.int .i64 v.c.sz,.int .i64 v.c.sw.size,.int .i64 v.c.sw.left,.int .i64 v.c.sw.held,.int .i64 v.c.rw.size,.int .i64 v.c.rw.left,.int .i64 v.c.rw.held,.slice v.x v.kv.length v.xc,.slice v.o v.c.ou.length v.oc,.slice v.p v.c.pg.length v.pc,.bool v.c.cl],.agg #[.int .i64 v'.c.sd,.int .i64 v'.c.nx,.int .i64 v'.c.la,.int .i64 v'.c.aw,.int .i64 v'.c.sz,.int .i64 v'.c.sw.size,.int .i64 v'.c.sw.left,.int .i64 v'.c.sw.held,.int .i64 v'.c.rw.size,.int .i64 v'.c.rw.left,.int .i64 v'.c.rw.held,.slice v'.x v'.kv.length v'.xc,.slice v'.o v'.c.ou.length v'.oc,.slice v'.p v'.c.pg.length v'.pc,.bool v'.c.cl]] w fun e w'=>e= .returned (.bool true)∧Below w.heap.size w w':=by
 have hl:v'.kv.length=v.kv.length:=by
  have h1:=congrArg List.length hN.eq
  have h2:=congrArg List.length hN'.eq
  rw[List.length_map]at h1 h2
  rw[he]at h2
  omega
 rw[he,hl]
 exact sV v v' he w hN hN' hz
theorem AC(c:NL)(o:xj):(bY c o).outs.length≤c.ou.length:=by
 by_cases h:o.kind=7
 · unfold bY
   rw[if_neg (by omega),if_neg (by omega),if_neg (by omega),if_neg (by omega),if_neg (by omega),if_neg (by omega),if_neg (by omega),if_pos h]
   exact Nat.le_refl _
 · rw[Cm h]
   exact Nat.zero_le _
theorem GV{A:Nat→Prop}(v:NV)(w:World)(hN:NOk A w v)(hv:VN v.c)(hms:aX v.c≤500000000)(hg:MLen w):Calls Tryz.prog 8 #[.agg #[.int .i64 v.c.sd,.int .i64 v.c.nx,.int .i64 v.c.la,.int .i64 v.c.aw,.int .i64 v.c.sz,.int .i64 v.c.sw.size,.int .i64 v.c.sw.left,.int .i64 v.c.sw.held,.int .i64 v.c.rw.size,.int .i64 v.c.rw.left,.int .i64 v.c.rw.held,.slice v.x v.kv.length v.xc,.slice v.o v.c.ou.length v.oc,.slice v.p v.c.pg.length v.pc,.bool v.c.cl]] w fun e w'=>e= .returned (.bool true)∧Below w.heap.size w w':=by
 have h:=vC v w hN ((hv.toVB.szl hms).n hN) ((hv.toVB.szl hms).g hN) (hv.szv hN.eq) hg
 rw[hv.told]at h
 exact h
theorem GW(sd sz:Int)(p:NL×Int)(h:fG sd sz=p)(w:World):Calls Tryz.prog 14 #[.int .i64 sd,.int .i64 sz] w fun e w'=>e= .returned (.tuple #[.agg ⟨NC (ju p.1)⟩,.int .i64 p.2])∧Below w.heap.size w w':=by
 subst h
 exact vo sd sz w
theorem Fz(sd sz:Int)(p:NL×Int)(h:fG sd sz=p)(w:World):Calls Tryz.prog 19 #[.int .i64 sd,.int .i64 sz] w fun e w'=>e= .returned (.tuple #[.agg ⟨NC (ju p.1)⟩,.int .i64 p.2])∧Below w.heap.size w w':=by
 subst h
 exact Aj sd sz w
structure GX where
 i:Nat
 v:NV
 F:Nat→Prop
 u:NV
 G:Nat→Prop
attribute [local irreducible] Calls
theorem FA{A A':Nat→Prop}(r:Ha)(p p':Option Addr×Nat)(w:World)(hR:Rws A w 4 fC p.1 r.outs)(hR':Rws A' w 4 fC p'.1 r.outs)(hl:r.outs.length≤9000000000000000000):Calls Tryz.prog 22 #[.agg #[.int .i64 r.e,.int .i64 r.id,.string r.msg,.bool r.ok,.slice p.1 r.outs.length p.2],.agg #[.int .i64 r.e,.int .i64 r.id,.string r.msg,.bool r.ok,.slice p'.1 r.outs.length p'.2]] w fun e w'=>e= .returned (.bool true)∧Below w.heap.size w w':=by
 refine ai Tryz.func22 rfl Tryz.ntmps22 J J ?_
 repeat' (first|(refine bx ?_;intro g3)|refine cl (fun w hm=>oA p.1 p'.1 p.2 p'.2 r.outs w (hR.below hm.below) (hR'.below hm.below) hl) ?_|refine nx ?_)
 refine rt ?_
 exact fun w1 hm=>⟨by simp,hm.below⟩
theorem HJ{A:Nat→Prop}(sd sz:Int)(x:Option Addr)(l:List (xj×Option Addr×Nat))(cap:Nat)(w:World)(hR:Rws A w 14 (fun o=>GF o.1 o.2.1 o.2.2) x l)(hO:∀o∈l,OpOk A w o.1 o.2.1)(hlz:l.length≤1000000000)(hg:MLen w):Calls Tryz.prog 5 #[.int .i64 sd,.int .i64 sz,.slice x l.length cap] w fun e w'=>e= .returned (.bool true)∧Below w.heap.size w w':=by
 refine ai Tryz.func5 rfl Tryz.ntmps5 J J ?_
 obtain⟨p,hp⟩:∃p,fG sd sz=p:=⟨_,rfl⟩
 obtain⟨he1,he2,he3⟩:p.1.ks=[]∧p.1.ou=[]∧p.1.pg=[]:=by rw[←hp];unfold fG;split<;>exact⟨rfl,rfl,rfl⟩
 have hmt:∀A w,NOk A w (ju p.1):=fun A w=>pz he1 he2 he3
 have hmz:rk (ju p.1):=⟨Nat.zero_le _,(by show p.1.ou.length≤_;rw[he2];exact Nat.zero_le _),(by show p.1.pg.length≤_;rw[he3];exact Nat.zero_le _),fun u hu=>by cases hu⟩
 have hmw:fW (ju p.1):=⟨fun _=>rfl,fun _=>rfl,fun _=>rfl,Nat.zero_le _,(by show p.1.ou.length≤_;rw[he2];exact Nat.zero_le _),(by show p.1.pg.length≤_;rw[he3];exact Nat.zero_le _),fun u hu=>by cases hu⟩
 repeat' (first|(refine al ?_;intro g7)|refine cl (fun w hm=>GW sd sz p hp w) ?_|refine nx ?_)
 repeat' (first|(refine al ?_;intro g9)|refine cl (fun w hm=>Fz sd sz p hp w) ?_|refine cl (fun w hm=>sV (ju p.1) (ju p.1) rfl w (hmt (fun _=>True) w) (hmt (fun _=>True) w) hmz) ?_|refine nx ?_)
 refine aa rfl (by simp) ?_
 repeat' refine nx ?_
 by_cases he:p.2=0
 rotate_left
 · refine af rfl (by simpa using he) ?_
   repeat' (first|refine cl (fun w hm=>ye w (hg.below hm.below)) ?_|refine nx ?_)
   refine rt ?_
   exact fun w1 hm=>⟨rfl,hm.below⟩
 refine aa rfl (by simpa using he) ?_
 have hvn:VN p.1:=by rw[←hp];exact VN.new (by rw[hp];exact he)
 have hmn:aX p.1≤0:=by unfold aX;rw[he1,he2];exact Nat.le_refl _
 repeat' refine nx ?_
 refine xG (M':=[.cl g9 28 (NC (ju p.1)),.rep (fun _=>False) (fun w=>NOk (fun _=>False) w (ju p.1)),.cl g7 28 (NC (ju p.1)),.rep (fun _=>False) (fun w=>NOk (fun _=>False) w (ju p.1))]) (fun w1 hM=> ?_) ?_
 · have k1:=hM.addRepO (fun w=>NOk (fun _=>False) w (ju p.1)) (hmt _)
   have k2:=k1.addRepO (fun w=>NOk (fun _=>False) w (ju p.1)) (hmt _)
   exact k2.perm ((List.perm_middle (l₁:=[_,_]) (l₂:=[_])).trans (List.Perm.cons _ (List.Perm.cons _ (List.Perm.swap _ _ _))))
 refine bT (σ:=GX) (fun q=>q.i≤l.length∧q.i≤40∧VN q.v.c∧aX q.v.c≤2 * q.i∧q.u.c=q.v.c∧fW q.u) (fun q=>[(11,[],.int .i64 ((q.i:Nat):Int)),(9,[],.pointer (some ⟨g9,0,none⟩)),(7,[],.pointer (some ⟨g7,0,none⟩)),(2,[],.slice x l.length cap)]) (fun q=>[.cl g9 28 (NC q.u),.rep q.G (fun w=>NOk q.G w q.u),.cl g7 28 (NC q.v),.rep q.F (fun w=>NOk q.F w q.v)]) (fun q=>l.length-q.i) ⟨0,(ju p.1),fun _=>False,(ju p.1),fun _=>False⟩ [] ⟨Nat.zero_le _,Nat.zero_le _,hvn,hmn,rfl,hmw⟩ ⟨J,J,J,J,trivial⟩ rfl ?_
 rintro⟨i,⟨c,x0,xc0,kv0,o0,oc0,p0,pc0⟩,F0,⟨c9,y0,yc0,kw0,q0,qc0,r0,rc0⟩,G0⟩ ⟨hi1,hi2,hv,hms,hcu,hwu⟩
 dsimp only at hi1 hi2 hv hms hcu hwu ⊢
 have hcv:c=c9:=hcu.symm
 clear hcu
 subst hcv
 repeat' refine nx ?_
 by_cases hj:i<l.length∧i<40
 · obtain⟨s,hs⟩:∃s,l[i]? =some s:=⟨l[i],List.getElem?_eq_getElem hj.1⟩
   obtain⟨b,off,hx,_,_,hr⟩:=hR (by omega)
   subst hx
   have hj1:=hj.1
   have hOs:=hO s (List.mem_of_getElem? hs)
   have hrow:w.rangeAt b (off+i * 14) (GF s.1 s.2.1 s.2.2):=hr i s hs
   refine af rfl (by simp only[Bool.and_eq_true,decide_eq_true_eq];omega) ?_
   repeat' refine nx ?_
   have hms1:aX (cx c s.1)≤2 * (i+1):=by have:=zK hv s.1;omega
   have hv1:=hv.step s.1
   have hol1:(bY c s.1).outs.length≤9000000000000000000:=by
    have h8:=AC c s.1
    have h9:=hms
    unfold aX at h9
    omega
   refine fJ (fun b=>F0 b∨b<w.heap.size) 11 [56,12,13] [50,57,58] [58] (Ek (i:=3) rfl) ak rfl (by kernel_rfl) ?_
   iterate 4 ((first|refine ji rfl (mj ae (m:=14) i J J J J J J J J (fun _=>rfl) (fun _=>hj1)) J J J ?_|refine rv ?_))
   (first|refine ji rfl (cO ae (cs:=GF s.1 s.2.1 s.2.2) J J J J J (fun _=>hrow)) J J J ?_|refine rv ?_)
   refine eR (σ := (NV × (Option Addr × Nat)) × (Nat → Prop)) (fun r => r.1.1.c = cx c s.1) (fun r => .tuple #[.agg ⟨NC r.1.1⟩, .agg ⟨FL (bY c s.1) r.1.2⟩]) (fun r => [.rep r.2 (fun w => NOk r.2 w r.1.1 ∧ Rws r.2 w 4 fC r.1.2.1 (bY c s.1).outs)]) rfl (ag J J J J ⟨J, J, trivial⟩ rfl (by kernel_rfl)) (fun w1 hm=>(Ae (A:=fun b=>F0 b∨b<w.heap.size) ⟨c,x0,xc0,kv0,o0,oc0,p0,pc0⟩ s.1 s.2.1 s.2.2 w1 ((hm.2.get (i:=3) rfl).2.1.mono fun _ h=> .inl h) hv (Nat.le_trans hms (by omega)) (hOs.old hm.below) (hg.below hm.below)).mono fun e w2 ⟨v',p,h1,h2,h3,h4⟩=>by
    obtain⟨Fs,g,k1,k2,k3,k4,k5⟩:=CO (O:=fun b=>F0 b∨b<w.heap.size) h3 h4 (fun b hb=>hb)
    exact⟨⟨((v',p),Fs),g,h1,h2,k1,k2,k3,k4⟩,h3.2⟩) J J J J J ?_
   refine qw 5 J J J J J J J (by kernel_rfl) ?_
   refine fQ 6 0 (m:=2) J J (fun x ⟨s,_,e⟩=>⟨_,e,rfl⟩) J J J J J J (by kernel_rfl) ?_
   refine fQ 6 1 (m:=2) J J (fun x ⟨s,_,e⟩=>⟨_,e,rfl⟩) J J J J J J (by kernel_rfl) ?_
   iterate 2 refine sO ae J J J J J J J J ?_
   refine lA ?_
   refine jP ?_
   rintro⟨⟨⟨c1,x1,xc1,kv1,o1,oc1,p1,pc1⟩,la1,lc1⟩,F1⟩ h1
   refine gX _ J J ?_
   refine gX (.agg ⟨NC ⟨c1,x1,xc1,kv1,o1,oc1,p1,pc1⟩⟩) J J ?_
   refine gX (.agg ⟨FL (bY c s.1) (la1,lc1)⟩) J J ?_
   refine jP ?_
   rintro gA1 -
   refine jP ?_
   rintro gB1 -
   refine ox ?_
   dsimp only[List.cons_append,List.nil_append]
   dsimp only at h1
   repeat' refine nx ?_
   refine fJ (fun b=>G0 b∨b<w.heap.size) 11 [65,14,15] [59,66,67] [67] (Ek (i:=4) rfl) ak rfl (by kernel_rfl) ?_
   iterate 4 ((first|refine ji rfl (mj ae (m:=14) i J J J J J J J J (fun _=>rfl) (fun _=>hj1)) J J J ?_|refine rv ?_))
   (first|refine ji rfl (cO ae (cs:=GF s.1 s.2.1 s.2.2) J J J J J (fun _=>hrow)) J J J ?_|refine rv ?_)
   refine eR (σ := (NV × (Option Addr × Nat)) × (Nat → Prop)) (fun r => r.1.1.c = cx c s.1 ∧ fW r.1.1) (fun r => .tuple #[.agg ⟨NC r.1.1⟩, .agg ⟨FL (bY c s.1) r.1.2⟩]) (fun r => [.rep r.2 (fun w => NOk r.2 w r.1.1 ∧ Rws r.2 w 4 fC r.1.2.1 (bY c s.1).outs)]) rfl (ag J J J J ⟨J, J, trivial⟩ rfl (by kernel_rfl)) (fun w1 hm=>(xv (A:=fun b=>G0 b∨b<w.heap.size) ⟨c,y0,yc0,kw0,q0,qc0,r0,rc0⟩ s.1 s.2.1 s.2.2 w1 ((hm.2.get (i:=4) rfl).2.1.mono fun _ h=> .inl h) hwu hv (Nat.le_trans hms (by omega)) (hOs.old hm.below)).mono fun e w2 ⟨v',p,h1,h2,h3,hw9,h4⟩=>by
    obtain⟨Fs,g,k1,k2,k3,k4,k5⟩:=AB (O:=fun b=>G0 b∨b<w.heap.size) h3 h4 (fun b hb=>hb)
    exact⟨⟨((v',p),Fs),g,⟨h1,hw9⟩,h2,k1,k2,k3,k4⟩,h3.2⟩) J J J J J ?_
   refine qw 5 J J J J J J J (by kernel_rfl) ?_
   refine fQ 6 0 (m:=2) J J (fun x ⟨s,_,e⟩=>⟨_,e,rfl⟩) J J J J J J (by kernel_rfl) ?_
   refine fQ 6 1 (m:=2) J J (fun x ⟨s,_,e⟩=>⟨_,e,rfl⟩) J J J J J J (by kernel_rfl) ?_
   iterate 2 refine sO ae J J J J J J J J ?_
   refine lA ?_
   refine jP ?_
   rintro⟨⟨⟨c2,x2,xc2,kv2,o2,oc2,p2,pc2⟩,la2,lc2⟩,F2⟩ ⟨h2,hw2⟩
   refine gX _ J J ?_
   refine gX (.agg ⟨NC ⟨c2,x2,xc2,kv2,o2,oc2,p2,pc2⟩⟩) J J ?_
   refine gX (.agg ⟨FL (bY c s.1) (la2,lc2)⟩) J J ?_
   refine jP ?_
   rintro gA2 -
   refine jP ?_
   rintro gB2 -
   refine ox ?_
   dsimp only[List.cons_append,List.nil_append]
   dsimp only at h2
   obtain rfl:c1=c2:=h1.trans h2.symm
   have hv1':VN c1:=h1 ▸ hv1
   have hms1':aX c1≤2 * (i+1):=h1 ▸ hms1
   repeat' (first|refine cl (fun w hm=>FA (bY c s.1) (la1,lc1) (la2,lc2) w (hm.2.get (i:=5) rfl).2.1.2 (hm.2.get (i:=2) rfl).2.1.2 hol1) ?_|refine cl (fun w hm=>GU ⟨c1,x1,xc1,kv1,o1,oc1,p1,pc1⟩ ⟨c1,x2,xc2,kv2,o2,oc2,p2,pc2⟩ rfl w (hm.2.get (i:=5) rfl).2.1.1 (hm.2.get (i:=2) rfl).2.1.1 ((hv1'.toVB.szl (Nat.le_trans hms1' (by omega))).n (hm.2.get (i:=5) rfl).2.1.1)) ?_|refine cl (fun w hm=>GV ⟨c1,x1,xc1,kv1,o1,oc1,p1,pc1⟩ w (hm.2.get (i:=5) rfl).2.1.1 hv1' (Nat.le_trans hms1' (by omega)) (hg.below hm.below)) ?_|refine nx ?_)
   refine aa J J ?_
   repeat' (first|refine vx rfl (bm J J J J J (by omega)) ?_|refine nx ?_)
   refine gE (M':=[.cl g9 28 (NC ⟨c1,x2,xc2,kv2,o2,oc2,p2,pc2⟩),.rep F2 (fun w=>NOk F2 w ⟨c1,x2,xc2,kv2,o2,oc2,p2,pc2⟩),.cl g7 28 (NC ⟨c1,x1,xc1,kv1,o1,oc1,p1,pc1⟩),.rep F1 (fun w=>NOk F1 w ⟨c1,x1,xc1,kv1,o1,oc1,p1,pc1⟩)]) (fun w1 hM=> ?_) ?_
   · have k1:=hM.mask [false,false,true,false,false,true,true,false,true,false] rfl
     have k2:=k1.repTo (p':=fun w=>NOk F2 w ⟨c1,x2,xc2,kv2,o2,oc2,p2,pc2⟩) (fun _ h=>h.1) (fun _ _ hk h=>h.agree hk)
     have k3:=(k2.perm (List.Perm.swap _ _ _)).repTo (p':=fun w=>NOk F1 w ⟨c1,x1,xc1,kv1,o1,oc1,p1,pc1⟩) (fun _ h=>h.1) (fun _ _ hk h=>h.agree hk)
     exact k3.perm ((List.perm_middle (l₁:=[_,_]) (l₂:=[_])).trans (List.Perm.cons _ (List.perm_append_comm (l₁:=[_]) (l₂:=[_,_]))))
   exact aY (⟨i+1,⟨c1,x1,xc1,kv1,o1,oc1,p1,pc1⟩,F1,⟨c1,x2,xc2,kv2,o2,oc2,p2,pc2⟩,F2⟩:GX) [] ⟨by dsimp only;omega,by dsimp only;omega,hv1',hms1',rfl,hw2⟩ (show l.length - (i+1)<l.length-i by omega) ⟨J,J,J,J,trivial⟩ rfl
 · refine aa rfl (by
    by_cases h9:i<l.length
    · have:¬i<40:=fun h=>hj ⟨h9,h⟩
      simp only[Bool.and_eq_false_iff,decide_eq_false_iff_not];omega
    · simp only[Bool.and_eq_false_iff,decide_eq_false_iff_not];omega) ?_
   repeat' (first|refine cl (fun w hm=>ye w (hg.below hm.below)) ?_|refine nx ?_)
   refine rt ?_
   exact fun w1 hm=>⟨rfl,hm.below⟩
end Go.Proofs.YthiocbcokfondaaGreatDoor.Y
