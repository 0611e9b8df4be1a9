import Derived.Test.YthiocbcokfondaaGreatDoorJBunN10
import Derived.Test.YthiocbcokfondaaGreatDoorJBunT
import Derived.Test.YthiocbcokfondaaGreatDoorJCn28
import Derived.Test.YthiocbcokfondaaGreatDoorJBunQ
import Derived.Test.YthiocbcokfondaaGreatDoorJBunX
set_option maxRecDepth 100000
set_option maxHeartbeats 32000000
namespace Go.Proofs.YthiocbcokfondaaGreatDoor.Y
section
open Go.RowKit
theorem GR(x:bk)(n:Int)(t:pf)(h:bM x n=t)(w:World):Calls Tryz.prog 122 #[.agg #[.int .i64 x.size,.int .i64 x.left,.int .i64 x.held],.int .i64 n] w fun e w'=>e= .returned (.tuple #[.agg #[.int .i64 t.win.size,.int .i64 t.win.left,.int .i64 t.win.held],.int .i64 t.err])∧Below w.heap.size w w':=by
 subst h
 exact lU x n w
theorem GS(x:bk)(n:Int)(t:pf)(h:cy x n=t)(w:World):Calls Tryz.prog 125 #[.agg #[.int .i64 x.size,.int .i64 x.left,.int .i64 x.held],.int .i64 n] w fun e w'=>e= .returned (.tuple #[.agg #[.int .i64 t.win.size,.int .i64 t.win.left,.int .i64 t.win.held],.int .i64 t.err])∧Below w.heap.size w w':=by
 subst h
 exact oV x n w
theorem CN{a:Option Addr}{cap sz:Nat}(h1:a=none→cap=0)(h:fV a cap sz=none):cap-1=0:=by
 unfold fV at h
 split at h
 · have:=h1 h;omega
 · cases a with
   |none=>have:=h1 rfl;omega
   |some=>cases h
theorem GT(n:Int):∀x∈iC n,x.oneCell'=true:=dY rfl
attribute [local irreducible] Calls
theorem xu{A:Nat→Prop}(v:NV)(f:aS)(w:World)(hN:NOk A w v)(hw:fW v)(hv:VN v.c)(hms:aX v.c≤400000000)(hfd:f.data.size<4294967281):Calls Tryz.prog 61 #[.agg ⟨NC v⟩,.agg #[.int .i64 f.kind,.int .i64 f.strm,.int .i64 f.num,.string f.data]] w fun e w'=> ∃v':NV,v'.c=(ci v.c f).1∧e= .returned (.tuple #[.agg ⟨NC v'⟩,.int .i64 (ci v.c f).2])∧OutN A w w' v'∧fW v':=by
 refine ai Tryz.func61 rfl Tryz.ntmps61 J J ?_
 have hz:=(hv.toVB.szl (by omega)).n hN
 have hgd:=(hv.toVB.szl (by omega)).g hN
 have hzk:=hz.ks
 have hol:v.c.ou.length≤400000000:=by have h9:=hms;unfold aX at h9;omega
 obtain⟨e1,he1⟩:∃x,aA f=x:=⟨_,rfl⟩
 obtain⟨b1,hb1⟩:∃x,og v.c.sd f.kind=x:=⟨_,rfl⟩
 repeat' (first|(refine bx ?_;intro g3)|(refine al ?_;intro g4)|refine nx ?_)
 rename_i g2
 by_cases hcl0:v.c.cl=true
 · have hg:ci v.c f=(v.c,20):=by unfold ci;rw[if_pos hcl0]
   refine af rfl hcl0 ?_
   rw[hg]
   repeat' refine nx ?_
   refine rt ?_
   exact fun w1 hm=>⟨v,rfl,rfl,OutN.same hN hm.below,hw⟩
 have hcl:=eq_false_of_ne_true hcl0
 refine aa rfl hcl ?_
 repeat' (first|refine cl (fun w hm=>xe f e1 he1 w hfd) ?_|refine cl (fun w hm=>GO v.c.sd f.kind b1 hb1 w) ?_|refine nx ?_)
 by_cases hrf:e1≠0∨b1=true
 · have hr:gy v.c f=1:=by unfold gy;rw[he1,hb1,if_pos hrf]
   refine af rfl (by
    rcases hrf with h|h
    · have e9:(e1 !=0)=true:=by simpa using h
      rw[e9];rfl
    · rw[h];simp) ?_
   have hg:ci v.c f=(iL v.c,1):=by unfold ci;rw[if_neg hcl0,if_pos (by rw[hr];decide),hr]
   rw[hg]
   repeat' refine nx ?_
   refine aR bd (fun w1 hm=>jY v w1 (hN.lt.below hm.below) hw hv hms) ?_
   rintro V1 F1 hc1 hw1 hF1
   repeat' refine nx ?_
   refine rt ?_
   exact fun w1 hm=>⟨V1,hc1,rfl,aL (hm.2.get (i:=0) rfl).2.1 hF1 hm.below,hw1⟩
 refine aa rfl (by
  have e9:(e1 !=0)=false:=by simpa using fun h=>hrf (.inl h)
  rw[e9,eq_false_of_ne_true fun h=>hrf (.inr h)];rfl) ?_
 repeat' refine nx ?_
 by_cases hord:(f.kind=1)=(f.strm≤v.c.la)
 · have hr:gy v.c f=11:=by unfold gy;rw[he1,hb1,if_neg hrf,if_pos hord]
   refine af rfl (D2 hord) ?_
   have hg:ci v.c f=(iL v.c,11):=by unfold ci;rw[if_neg hcl0,if_pos (by rw[hr];decide),hr]
   rw[hg]
   repeat' refine nx ?_
   refine aR bd (fun w1 hm=>jY v w1 (hN.lt.below hm.below) hw hv hms) ?_
   rintro V1 F1 hc1 hw1 hF1
   repeat' refine nx ?_
   refine rt ?_
   exact fun w1 hm=>⟨V1,hc1,rfl,aL (hm.2.get (i:=0) rfl).2.1 hF1 hm.below,hw1⟩
 refine aa rfl (CH hord) ?_
 have hf:aA f=0:=he1.trans (Decidable.not_not.1 fun h=>hrf (.inl h))
 have hR:gy v.c f=if f.kind=2∧v.c.rw.left<aG f.data then 22 else if f.kind=6∧f.strm=0∧(cy v.c.sw f.num).err≠0 then 6 else 0:=by unfold gy;rw[he1,hb1,if_neg hrf,if_neg hord]
 have hkk:=pB hf
 repeat' refine nx ?_
 by_cases hk1:f.kind=1
 · refine af rfl (by simpa using hk1) ?_
   have hr:gy v.c f=0:=by rw[hR,if_neg (by omega),if_neg (by omega)]
   have ha:ii v.c f=gb v.c f:=by unfold ii;rw[if_pos hk1]
   have hg:ci v.c f=(gb v.c f,0):=by unfold ci;rw[if_neg hcl0,if_neg (by rw[hr];simp),ha]
   rw[hg]
   repeat' refine nx ?_
   refine aR bd (fun w1 hm=>Az v f w1 (hN.lt.below hm.below) hw hv hms hf hk1) ?_
   rintro V1 F1 hc1 hw1 hF1
   repeat' refine nx ?_
   refine rt ?_
   exact fun w1 hm=>⟨V1,hc1,rfl,aL (hm.2.get (i:=0) rfl).2.1 hF1 hm.below,hw1⟩
 refine aa rfl (by simpa using hk1) ?_
 repeat' refine nx ?_
 by_cases hk2:f.kind=2
 · refine af rfl (by simpa using hk2) ?_
   obtain⟨n,hn⟩:∃n,aG f.data=n:=⟨_,rfl⟩
   obtain⟨t,ht⟩:∃t,bM v.c.rw n=t:=⟨_,rfl⟩
   have hn1:1≤n:=by rw[←hn];exact dH _
   repeat' refine nx ?_
   refine aF ak rfl (by kernel_rfl) ?_
   repeat' (first|refine nx ?_|((refine' cB rfl ?_ J J J ?_);rotate_left;first|exact ax ae J J J J|exact ab ae 0 J J J J J|exact ab ae 1 J J J J J|exact ab ae 2 J J J J J|exact ab ae 3 J J J J J|exact ab ae 4 J J J J J)|refine aU rfl (ag J J J J ⟨J,trivial⟩ rfl (by kernel_rfl)) rfl (fun w hm=>vY f.data n hn w) J J ?_|refine aU rfl (ag J J J J ⟨J,J,trivial⟩ rfl (by kernel_rfl)) rfl (fun w hm=>GR v.c.rw n t ht w) J J ?_|refine cg ae J J J J J J ?_|(refine bO ?_;intro g6))
   by_cases hte:t.err=0
   rotate_left
   · have hlt:v.c.rw.left<aG f.data:=Int.not_le.1 fun h=>hte (by rw[←ht,qG hv.rw (by omega) (by rw[←hn];exact h)])
     have hr:gy v.c f=22:=by rw[hR,if_pos ⟨hk2,hlt⟩]
     refine af rfl (by simpa using hte) ?_
     have hg:ci v.c f=(iL v.c,22):=by unfold ci;rw[if_neg hcl0,if_pos (by rw[hr];decide),hr]
     rw[hg]
     repeat' refine nx ?_
     refine aR bd (fun w1 hm=>jY v w1 (hN.lt.below hm.below) hw hv hms) ?_
     rintro V1 F1 hc1 hw1 hF1
     repeat' refine nx ?_
     refine rt ?_
     exact fun w1 hm=>⟨V1,hc1,rfl,aL (hm.2.get (i:=0) rfl).2.1 hF1 hm.below,hw1⟩
   obtain⟨_,_,hle,hte2⟩:=yh (ht ▸ hte)
   have htw:t.win=⟨v.c.rw.size,v.c.rw.left-n,v.c.rw.held+n⟩:=by rw[←ht,hte2]
   have hr:gy v.c f=0:=by rw[hR,if_neg (by rw[hn];omega),if_neg (by omega)]
   have htk:=oC hv (f:=f) (by rw[hn];exact hle)
   have hCT:dM v.c f={v.c with rw:=t.win}:=by rw[htk.1,hn,htw]
   have hvt:VN {v.c with rw:=t.win}:=hCT ▸ htk.2
   have ha:ii v.c f=gbC (gh {v.c with rw:=t.win} f):=by unfold ii;rw[if_neg hk1,if_pos hk2,D3 hk2,hCT]
   have hvp:=D1 hvt hcl hf ⟨by omega,by omega⟩ (fun _=>by show ba v.c.ks+_≤t.win.held;rw[htw,hn];have:=hv.tt;show _≤v.c.rw.held+n;omega)
   have hmp:aX (gh {v.c with rw:=t.win} f)≤400000001:=Nat.le_trans (Ar hvt hcl hf ⟨by omega,by omega⟩) (Nat.succ_le_succ hms)
   have hg:ci v.c f=(gbC (gh {v.c with rw:=t.win} f),0):=by unfold ci;rw[if_neg hcl0,if_neg (by rw[hr];simp),ha]
   rw[hg]
   refine aa rfl (by simpa using hte) ?_
   repeat' refine nx ?_
   refine aR bd (fun w1 hm=>sZ (⟨{v.c with rw:=t.win},v.x,v.xc,v.kv,v.o,v.oc,v.p,v.pc⟩:NV) f w1 (lW (hN.lt.below hm.below) _ J J J) ⟨hw.x,hw.o,hw.p,hw.xl,hw.ol,hw.pl,hw.k⟩ hvt hms hcl hf ⟨by omega,by omega⟩) ?_
   rintro V1 F1 hc1 hw1 hF1
   refine df (p:=V1.c.ks=V1.kv.map (·.k)) (fun w1 hM=>(hM.2.get (i:=0) rfl).2.1.eq) fun heq1=> ?_
   rw[←hc1]at hvp hmp
   have hl1:V1.kv.length≤400000001∧V1.c.ou.length≤400000001:=by
    rw[mw heq1]
    unfold aX at hmp
    omega
   refine aR (eS 0 hF1 rfl) (fun w1 hm=>my V1 w1 (hm.2.get (i:=0) rfl).2.1 hw1 hvp.rw hvp.tt (by omega) (by omega)) ?_
   rintro V2 F2 hc2 hw2 hF2
   repeat' refine nx ?_
   refine rt ?_
   exact fun w1 hm=>⟨V2,by rw[hc2,hc1],rfl,aL (hm.2.get (i:=0) rfl).2.1 hF2 hm.below,hw2⟩
 refine aa rfl (by simpa using hk2) ?_
 repeat' refine nx ?_
 have hr0:f.kind≠6→gy v.c f=0:=fun h=>by rw[hR,if_neg (fun h=>hk2 h.1),if_neg (fun h'=>h h'.1)]
 by_cases hk7:f.kind=7
 · refine af rfl (by simpa using hk7) ?_
   have ha:ii v.c f={v.c with ou:=v.c.ou++[(⟨8,0,f.num,emptyB⟩:aS)]}:=by unfold ii;rw[if_neg hk1,if_neg hk2,if_pos hk7]
   have hg:ci v.c f=({v.c with ou:=v.c.ou++[(⟨8,0,f.num,emptyB⟩:aS)]},0):=by unfold ci;rw[if_neg hcl0,if_neg (by rw[hr0 (by omega)];simp),ha]
   rw[hg]
   repeat' refine nx ?_
   refine aR bd (fun w1 hm=>eN v (⟨8,0,f.num,emptyB⟩:aS) w1 (hN.lt.below hm.below) hw (by omega)) ?_
   rintro V1 F1 hc1 hw1 hF1
   repeat' refine nx ?_
   refine rt ?_
   exact fun w1 hm=>⟨V1,hc1,rfl,aL (hm.2.get (i:=0) rfl).2.1 hF1 hm.below,hw1⟩
 refine aa rfl (by simpa using hk7) ?_
 repeat' refine nx ?_
 by_cases hk8:f.kind=8
 · refine af rfl (by simpa using hk8) ?_
   have ha:ii v.c f={v.c with pg:=if 16<(v.c.pg++[f.num]).length then(v.c.pg++[f.num]).drop 1 else v.c.pg++[f.num]}:=by unfold ii;rw[if_neg hk1,if_neg hk2,if_neg hk7,if_pos hk8,D8 hv.pg]
   have hpg:=hv.pg
   repeat' refine nx ?_
   refine kR 3 1 ?_
   refine gI v.c.pg ae 0 J J J J J J J J J (fun _ _=>rfl) xQ hw.p eJ GT (fun w1 hm=>⟨_,(hN.lt.below hm.below).pg⟩) (by unfold maxLen;omega) (by omega) J J ?_
   intro sa sc
   repeat' (first|(refine cc ae J J J ⟨J,trivial⟩ J J J J J J J J ?_;intro g)|(refine bB ae 1 0 J J J J J J J J J (fun _ _=>rfl) xQ J J (by unfold maxLen;omega) (by omega) J J ?_;intro sb sd)|refine nx ?_)
   have hlq:0+v.c.pg.length+1=(v.c.pg++[f.num]).length:=by simp
   have hfl:[]++v.c.pg.flatMap iC++iC f.num=(v.c.pg++[f.num]).flatMap iC:=by simp
   rw[hlq]
   obtain⟨P,hP⟩:∃P,v.c.pg++[f.num]=P:=⟨_,rfl⟩
   rw[hP]at hfl ha
   rw[hP]
   have hPl:1≤P.length:=by rw[←hP];simp
   refine kj (p := (sb = none → sd = 0) ∧ P.length ≤ sd) (fun w1 hm=>by
    have h:w1.ownsRow w.heap.size 3 1 (.slice sb P.length sd) P.length ([]++v.c.pg.flatMap iC++iC f.num):=hm.2.get (i:=1) rfl
    exact⟨mW h,fo h⟩) fun⟨hs1,hs2⟩=> ?_
   by_cases h16:16<P.length
   · rw[if_pos h16]at ha
     have hg:ci v.c f=({v.c with pg:=P.drop 1},0):=by unfold ci;rw[if_neg hcl0,if_neg (by rw[hr0 (by omega)];simp),ha]
     rw[hg]
     refine af rfl (decide_eq_true (by omega)) ?_
     obtain⟨s,r,rfl⟩:∃s r,P=s::r:=by cases P with|nil=>cases hPl|cons s r=>exact⟨s,r,rfl⟩
     have hs3:r.length+1≤sd:=hs2
     repeat' (first|refine vx rfl (dQ ae 1 (s::r).length J J J J J J J J J J J hPl hs2) ?_|refine nx ?_)
     refine rt ?_
     exact fun w1 hm=>⟨(⟨{v.c with pg:=r},v.x,v.xc,v.kv,v.o,v.oc,fV sb sd 1,sd-1⟩:NV),rfl,rfl,⟨⟨(hN.ks.below hm.below).mono fun _=> .inl,(hN.ou.below hm.below).mono fun _=> .inl,(ld (Rws.own eJ (hfl ▸ (hm.2.get (i:=1) rfl:w1.ownsRow w.heap.size 3 1 (.slice sb (s::r).length sd) (s::r).length ([]++v.c.pg.flatMap iC++iC f.num)))) hs2).mono fun _=> .inr,hN.eq,fun y hy=>((hN.ok y hy).below hm.below).mono fun _=> .inl⟩,hm.below⟩,⟨hw.x,hw.o,CN hs1,hw.xl,hw.ol,(by show r.length≤sd-1;omega),hw.k⟩⟩
   · rw[if_neg h16]at ha
     have hg:ci v.c f=({v.c with pg:=P},0):=by unfold ci;rw[if_neg hcl0,if_neg (by rw[hr0 (by omega)];simp),ha]
     rw[hg]
     refine aa rfl (decide_eq_false (by omega)) ?_
     repeat' refine nx ?_
     refine rt ?_
     exact fun w1 hm=>⟨(⟨{v.c with pg:=P},v.x,v.xc,v.kv,v.o,v.oc,sb,sd⟩:NV),rfl,rfl,⟨⟨(hN.ks.below hm.below).mono fun _=> .inl,(hN.ou.below hm.below).mono fun _=> .inl,(Rws.own eJ (hfl ▸ (hm.2.get (i:=1) rfl:w1.ownsRow w.heap.size 3 1 (.slice sb P.length sd) P.length ([]++v.c.pg.flatMap iC++iC f.num)))).mono fun _=> .inr,hN.eq,fun y hy=>((hN.ok y hy).below hm.below).mono fun _=> .inl⟩,hm.below⟩,⟨hw.x,hw.o,hs1,hw.xl,hw.ol,hs2,hw.k⟩⟩
 refine aa rfl (by simpa using hk8) ?_
 repeat' refine nx ?_
 by_cases hk9:f.kind=9
 · refine af rfl (by simpa using hk9) ?_
   have hnum:0≤f.num∧f.num≤2147483647:=by
    have h9:=mx hf
    rw[hk9]at h9
    unfold cV at h9
    simpa using h9
   have hs1:v.c.sd=1:=by
    rcases hv.sd with h|h
    · exact h
    · rw[h,hk9]at hb1
      exact absurd (.inr (hb1.symm.trans rfl)) hrf
   repeat' (first|refine vx rfl (bm J J J J J (by omega)) ?_|refine nx ?_)
   by_cases hcA:v.c.aw=0∨f.num+1<v.c.aw
   · have ha:ii v.c f=oe {v.c with aw:=f.num+1} f.num:=by unfold ii;rw[if_neg hk1,if_neg hk2,if_neg hk7,if_neg hk8,if_pos hk9,if_pos hcA]
     have hg:ci v.c f=(oe {v.c with aw:=f.num+1} f.num,0):=by unfold ci;rw[if_neg hcl0,if_neg (by rw[hr0 (by omega)];simp),ha]
     rw[hg]
     refine af rfl (by
      rcases hcA with h|h
      · rw[h];rfl
      · simp[h]) ?_
     repeat' (first|refine vx rfl (bm J J J J J (by omega)) ?_|refine nx ?_)
     refine aR bd (fun w1 hm=>oI (⟨{v.c with aw:=f.num+1},v.x,v.xc,v.kv,v.o,v.oc,v.p,v.pc⟩:NV) f.num w1 (lW (hN.lt.below hm.below) _ J J J) ⟨hw.x,hw.o,hw.p,hw.xl,hw.ol,hw.pl,hw.k⟩ (hv.awy (by omega) hs1) hms) ?_
     rintro V1 F1 hc1 hw1 hF1
     repeat' refine nx ?_
     refine rt ?_
     exact fun w1 hm=>⟨V1,hc1,rfl,aL (hm.2.get (i:=0) rfl).2.1 hF1 hm.below,hw1⟩
   · have ha:ii v.c f=oe v.c f.num:=by unfold ii;rw[if_neg hk1,if_neg hk2,if_neg hk7,if_neg hk8,if_pos hk9,if_neg hcA]
     have hg:ci v.c f=(oe v.c f.num,0):=by unfold ci;rw[if_neg hcl0,if_neg (by rw[hr0 (by omega)];simp),ha]
     rw[hg]
     refine aa rfl (by
      have h1:(v.c.aw==0)=false:=by simpa using fun h=>hcA (.inl h)
      rw[h1,Bool.false_or]
      exact decide_eq_false fun h=>hcA (.inr h)) ?_
     repeat' refine nx ?_
     refine aR bd (fun w1 hm=>oI v f.num w1 (hN.lt.below hm.below) hw hv hms) ?_
     rintro V1 F1 hc1 hw1 hF1
     repeat' refine nx ?_
     refine rt ?_
     exact fun w1 hm=>⟨V1,hc1,rfl,aL (hm.2.get (i:=0) rfl).2.1 hF1 hm.below,hw1⟩
 refine aa rfl (by simpa using hk9) ?_
 repeat' refine nx ?_
 by_cases h60:f.kind=6∧f.strm=0
 rotate_left
 · have hs:f.strm≠0:=fun h=>h60 ⟨Fw hf h ⟨hk7,hk8,hk9⟩,h⟩
   have hr:gy v.c f=0:=by rw[hR,if_neg (fun h=>hk2 h.1),if_neg (fun h=>h60 ⟨h.1,h.2.1⟩)]
   have ha:ii v.c f=gh v.c f:=by unfold ii;rw[if_neg hk1,if_neg hk2,if_neg hk7,if_neg hk8,if_neg hk9,D4 hk2 hs]
   have hg:ci v.c f=(gh v.c f,0):=by unfold ci;rw[if_neg hcl0,if_neg (by rw[hr];simp),ha]
   rw[hg]
   refine aa rfl (by
    have h1:(f.strm==0)=false:=by simpa using hs
    rw[h1,Bool.and_false]) ?_
   repeat' refine nx ?_
   refine aR bd (fun w1 hm=>sZ v f w1 (hN.lt.below hm.below) hw hv hms hcl hf ⟨by omega,by omega⟩) ?_
   rintro V1 F1 hc1 hw1 hF1
   repeat' refine nx ?_
   refine rt ?_
   exact fun w1 hm=>⟨V1,hc1,rfl,aL (hm.2.get (i:=0) rfl).2.1 hF1 hm.below,hw1⟩
 refine af rfl (by rw[h60.1,h60.2];rfl) ?_
 obtain⟨t,ht⟩:∃t,cy v.c.sw f.num=t:=⟨_,rfl⟩
 repeat' (first|(refine al ?_;intro g9)|refine cl (fun w hm=>GS v.c.sw f.num t ht w) ?_|refine nx ?_)
 by_cases hte:t.err=0
 rotate_left
 · have hr:gy v.c f=6:=by rw[hR,if_neg (fun h=>hk2 h.1),if_pos ⟨h60.1,h60.2,by rw[ht];exact hte⟩]
   refine af rfl (by simpa using hte) ?_
   have hg:ci v.c f=(iL v.c,6):=by unfold ci;rw[if_neg hcl0,if_pos (by rw[hr];decide),hr]
   rw[hg]
   repeat' refine nx ?_
   refine aR bd (fun w1 hm=>jY v w1 (hN.lt.below hm.below) hw hv hms) ?_
   rintro V1 F1 hc1 hw1 hF1
   repeat' refine nx ?_
   refine rt ?_
   exact fun w1 hm=>⟨V1,hc1,rfl,aL (hm.2.get (i:=0) rfl).2.1 hF1 hm.below,hw1⟩
 refine aa rfl (by simpa using hte) ?_
 obtain⟨_,hg1,hg2,hg3⟩:=nm (ht ▸ hte)
 have htw:t.win=⟨v.c.sw.size,v.c.sw.left+f.num,v.c.sw.held⟩:=by rw[←ht,hg3]
 have hr:gy v.c f=0:=by rw[hR,if_neg (fun h=>hk2 h.1),if_neg (fun h=>h.2.2 (by rw[ht];exact hte))]
 have ha:ii v.c f=eo {v.c with sw:=t.win} v.c.ks.length 0:=by unfold ii;rw[if_neg hk1,if_neg hk2,if_neg hk7,if_neg hk8,if_neg hk9];unfold gf;rw[if_pos h60.2,ht,if_pos hte]
 have hvb:VB {v.c with sw:=t.win}:=by
  rw[htw]
  exact⟨hv.sd,hv.sz,nr hv.sw hg1 hg2,hv.rw,hv.ss,hv.rs,hv.sh,hv.la,hv.aw,hv.n1,hv.n2,hv.pg,hv.pn,hv.cn,hv.pk,hv.asc,hv.ou,hv.cl,hv.tt⟩
 have hg:ci v.c f=(eo {v.c with sw:=t.win} v.c.ks.length 0,0):=by unfold ci;rw[if_neg hcl0,if_neg (by rw[hr];simp),ha]
 rw[hg]
 obtain⟨CG,hCG⟩:∃c,(⟨{v.c with sw:=t.win},v.x,v.xc,v.kv,v.o,v.oc,v.p,v.pc⟩:NV).c=c:=⟨_,rfl⟩
 have hCG':({v.c with sw:=t.win}:NL)=CG:=hCG
 rw[hCG']at hvb
 rw[hCG']
 have hms':aX CG≤400000000:=by rw[←hCG];exact hms
 obtain⟨LL,hLL⟩:∃n,v.c.ks.length=n:=⟨_,rfl⟩
 have hLG:CG.ks.length=LL:=by rw[←hCG];exact hLL
 rw[hLL]
 repeat' refine nx ?_
 refine⟨fun a w1 hS hM=> ?_⟩
 obtain⟨F0,hF0⟩:∃F0:Nat→Prop,F0=fun b=>((A b∧b<w.heap.size)∨w1.heap.size≤b)∧b<w1.heap.size:=⟨_,rfl⟩
 have hM1:=(nk (v:=(⟨{v.c with sw:=t.win},v.x,v.xc,v.kv,v.o,v.oc,v.p,v.pc⟩:NV)) hM (lW hN _ J J J)).perm (List.perm_middle (l₁:=[_,_,_,_]) (l₂:=[])).symm
 rw[←hF0]at hM1
 refine SC.run (M:=[.cl g9 23 [.int .i64 t.win.size,.int .i64 t.win.left,.int .i64 t.win.held],.cl g4 28 [.int .i64 0,.int .i64 0,.int .i64 0,.int .i64 0,.int .i64 0,.int .i64 0,.int .i64 0,.int .i64 0,.int .i64 0,.int .i64 0,.int .i64 0,.slice none 0 0,.slice none 0 0,.slice none 0 0,.bool false],.cl g3 65 [.int .i64 f.kind,.int .i64 f.strm,.int .i64 f.num,.string f.data],.cl g2 28 (NC (⟨{v.c with sw:=t.win},v.x,v.xc,v.kv,v.o,v.oc,v.p,v.pc⟩:NV)),.rep F0 (fun w=>NOk F0 w (⟨{v.c with sw:=t.win},v.x,v.xc,v.kv,v.o,v.oc,v.p,v.pc⟩:NV))]) ?_ a w1 hS hM1
 refine bT (σ:=US) (fun q=>q.j≤LL∧q.V.c=eo CG q.j 0∧fW q.V∧ ∀b,q.F b→A b∨w.heap.size≤b) (fun q=>[(11,[],.int .i64 ((q.j:Nat):Int)),(4,[],.pointer (some ⟨g4,0,none⟩)),(2,[],.pointer (some ⟨g2,0,none⟩))]) (fun q=>[.cl g4 28 [.int .i64 0,.int .i64 0,.int .i64 0,.int .i64 0,.int .i64 0,.int .i64 0,.int .i64 0,.int .i64 0,.int .i64 0,.int .i64 0,.int .i64 0,.slice none 0 0,.slice none 0 0,.slice none 0 0,.bool false],.cl g2 28 (NC q.V),.rep q.F (fun w=>NOk q.F w q.V)]) (fun q=>LL-q.j) ⟨0,(⟨{v.c with sw:=t.win},v.x,v.xc,v.kv,v.o,v.oc,v.p,v.pc⟩:NV),F0⟩ [false,true,false,true,true] ⟨Nat.zero_le _,hCG,⟨hw.x,hw.o,hw.p,hw.xl,hw.ol,hw.pl,hw.k⟩,fun b hb=>by rw[hF0]at hb;exact hb.1.elim (fun h=> .inl h.1) (fun h=> .inr (Nat.le_trans hM.1.size h))⟩ ⟨J,J,J,trivial⟩ rfl ?_
 rintro⟨j,V,F⟩ ⟨hj0,hc,hwf,hF⟩
 dsimp only at hj0 hc hwf hF ⊢
 obtain⟨hvj,hmj⟩:=wg j CG hvb (by omega)
 rw[←hc]at hvj hmj
 refine kj (p:=V.c.ks=V.kv.map (·.k)∧vp V) (fun w1 hM=>⟨(hM.2.get (i:=2) rfl).2.1.eq,(hvj.szl (by omega)).g (hM.2.get (i:=2) rfl).2.1⟩) fun⟨heqV,hgV⟩=> ?_
 have hlv:V.kv.length=LL:=by rw[mw heqV,hc,oH];exact hLG
 have hl9:LL≤400000000:=by have h9:=hms';unfold aX at h9;omega
 by_cases hjl:j<LL
 · obtain⟨u,hu⟩:∃u,V.kv[j]? =some u:=⟨V.kv[j],List.getElem?_eq_getElem (by omega)⟩
   have hum:=List.mem_of_getElem? hu
   have hci:V.c.ks[j]? =some u.k:=by rw[heqV,List.getElem?_map,hu];rfl
   have hob1:V.c.ou.length+u.k.ob.length≤400000000:=by
    have h8:=jk (List.mem_of_getElem? hci)
    have h9:=hmj
    unfold aX at h9 hms'
    omega
   repeat' refine nx ?_
   refine af rfl (show decide (((j:Nat):Int)<((V.kv.length:Nat):Int))=true from decide_eq_true (by omega)) ?_
   repeat' refine nx ?_
   refine aR (eS 2 hF rfl) (fun w1 hm=>lH V j u w1 (hm.2.get (i:=2) rfl).2.1 hwf hu (by omega) (hgV.tx u hum) (hgV.fr u hum) (Nat.le_trans hob1 (by decide))) ?_
   rintro V1 F1 hc1 hw1 hF1
   repeat' (first|refine vx rfl (bm J J J J J (by omega)) ?_|refine nx ?_)
   refine gE (M':=[.cl g4 28 [.int .i64 0,.int .i64 0,.int .i64 0,.int .i64 0,.int .i64 0,.int .i64 0,.int .i64 0,.int .i64 0,.int .i64 0,.int .i64 0,.int .i64 0,.slice none 0 0,.slice none 0 0,.slice none 0 0,.bool false],.cl g2 28 (NC V1),.rep F1 (fun w=>NOk F1 w V1)]) (fun w1 hM=>(hM.mask [true,true,true,false] rfl).perm (List.perm_middle (l₁:=[_,_]) (l₂:=[])).symm) ?_
   refine aY (⟨j+1,V1,F1⟩:US) [] ⟨hjl,?_,hw1,hF1⟩ (show LL - (j+1)<LL-j by omega) ⟨J,J,J,trivial⟩ rfl
   dsimp only
   rw[hc1,CD hvj hci,hc,mz,Nat.zero_add]
 · have hjl':j=LL:=by omega
   repeat' refine nx ?_
   refine aa rfl (show decide (((j:Nat):Int)<((V.kv.length:Nat):Int))=false from decide_eq_false (by omega)) ?_
   repeat' refine nx ?_
   refine rt ?_
   exact fun w1 hm=>⟨V,by rw[hc,hjl'],rfl,aL (hm.2.get (i:=2) rfl).2.1 hF hm.below,hwf⟩
end
section
open Go.RowKit
theorem OpOk.old{A B:Nat→Prop}{w w1:World}{o:xj}{hx:Option Addr}(h:OpOk A w o hx)(hb:Below w.heap.size w w1):OpOk (fun b=>B b∨b<w.heap.size) w1 o hx:=
 ⟨h.ms,h.hd,h.hl,(h.hR.lt.below hb).mono fun _ h=> .inr h.2,h.fd,h.tt⟩
theorem CO{F O:Nat→Prop}{w1 w2:World}{s:NV}{x:Option Addr}{l:List aS}(h:OutN F w1 w2 s)(h4:Rws (fun b=>w1.heap.size≤b) w2 4 fC x l)(hO:∀b,F b→O b):∃Fs:Nat→Prop,∃g:Nat→Prop,MemL w1.heap.size w2 [.rep Fs (fun w=>NOk Fs w s∧Rws Fs w 4 fC x l)]∧(∀f∈ [Ent.rep Fs (fun w=>NOk Fs w s∧Rws Fs w 4 fC x l)],∀b,f.mut b→g b)∧(∀f∈ [Ent.rep Fs (fun w=>NOk Fs w s∧Rws Fs w 4 fC x l)],∀b,f.foot b→g b∨O b)∧(∀b,g b→w1.heap.size≤b∧b<w2.heap.size)∧ ∀b,Fs b→F b∨w1.heap.size≤b:=by
 refine⟨fun b=>(F b∨w1.heap.size≤b)∧b<w2.heap.size,fun b=>w1.heap.size≤b∧b<w2.heap.size,⟨⟨fun _ h=>h.2,⟨h.1.lt,h4.lt.mono fun b hb=>⟨.inr hb.1,hb.2⟩⟩,fun w3 w4 hk h=>⟨h.1.agree hk,h.2.agree hk⟩⟩,fun f hf=>(by cases hf),trivial⟩,fun f hf b hm=> ?_,fun f hf b hm=> ?_,fun _ h=>h,fun b hb=>hb.1⟩
 · obtain rfl:=List.mem_singleton.1 hf
   exact hm.elim
 · obtain rfl:=List.mem_singleton.1 hf
   have hm':(F b∨w1.heap.size≤b)∧b<w2.heap.size:=hm
   rcases hm'.1 with h|h
   · exact .inr (hO b h)
   · exact .inl ⟨h,hm'.2⟩
theorem Mem.addRepO{w0 w:World}{M:List Ent}(h:Mem w0 w M)(p:World→Prop)(hp:∀w,p w):Mem w0 w (.rep (fun _=>False) p::M):=
 ⟨h.1,⟨fun _ h=>h.elim,hp w,fun _ w2 _ _=>hp w2⟩,fun _ _ _=>⟨fun hm=>hm.elim,fun _ hf=>hf.elim⟩,h.2⟩
structure OS where
 i:Nat
 v:NV
 F:Nat→Prop
attribute [local irreducible] Calls
end
section
open Go.RowKit
attribute [local irreducible] Calls
theorem xv{A:Nat→Prop}(v:NV)(o:xj)(hx:Option Addr)(hc:Nat)(w:World)(hN:NOk A w v)(hw:fW v)(hv:VN v.c)(hms:aX v.c≤400000000)(hO:OpOk A w o hx):Calls Tryz.prog 21 #[.agg ⟨NC v⟩,.agg #[.int .i64 o.kind,.int .i64 o.id,.int .i64 o.n,.string o.msg,.string o.h.svc,.string o.h.mth,.int .i64 o.h.late,.slice hx o.h.metas.length hc,.int .i64 o.f.kind,.int .i64 o.f.strm,.int .i64 o.f.num,.string o.f.data,.int .i64 o.tc,.string o.tt]] w fun e w'=> ∃v':NV,∃p:Option Addr×Nat,v'.c=cx v.c o∧e= .returned (.tuple #[.agg ⟨NC v'⟩,.agg ⟨FL (bY v.c o) p⟩])∧OutN A w w' v'∧fW v'∧Rws (fun b=>A b∨w.heap.size≤b) w' 4 fC p.1 (bY v.c o).outs:=by
 refine ai Tryz.func21 rfl Tryz.ntmps21 J J ?_
 have hz:=(hv.toVB.szl (by omega)).n hN
 have hgd:=(hv.toVB.szl (by omega)).g hN
 have hzk:=hz.ks
 have hol:v.c.ou.length≤400000000:=by have h9:=hms;unfold aX at h9;omega
 have hmsg:o.msg.size<4294967281:=by have:=hO.ms;omega
 have hfd:o.f.data.size<4294967281:=by have:=hO.fd;omega
 have htt:o.tt.size≤4611686018427387900:=by have:=hO.tt;omega
 have hla:v.c.la≤4611686018427387904∧ -1≤v.c.la:=by have:=hv.la;omega
 have hob:∀u∈v.kv,u.k.ob.length≤500000000:=fun u hu=>by
  have h8:=jk (k:=u.k) (l:=v.c.ks) (by rw[hN.eq];exact List.mem_map_of_mem hu)
  have h9:=hms
  unfold aX at h9
  omega
 iterate 2 refine nx ?_
 (refine bQ J J J J J J ?_;intro g2)
 (refine bQ J J J J J J ?_;intro g3)
 (refine br ae J J J J J J ?_;intro g4)
 (refine br ae J J J J J J ?_;intro g5)
 iterate 4 refine nx ?_
 (refine br ae J J J J J J ?_;intro g6)
 iterate 7 refine nx ?_
 refine tv (σ:=QS) (fun q=>q.V.c=cx v.c o∧fW q.V∧(∀b,q.F b→A b∨w.heap.size≤b)∧bY v.c o=DS q.e) (fun q=>[(7,[],.int .i64 q.e),(6,[],.pointer (some ⟨g6,0,none⟩)),(5,[],.pointer (some ⟨g5,0,none⟩)),(4,[],.pointer (some ⟨g4,0,none⟩)),(2,[],.pointer (some ⟨g2,0,none⟩))]) (fun q=>[.rep q.F (fun w=>NOk q.F w q.V),.cl g6 61 [.int .i64 0,.int .i64 0,.string ⟨#[]⟩,.bool false,.slice none 0 0],.cl g5 61 [.int .i64 0,.int .i64 0,.string ⟨#[]⟩,.bool false,.slice none 0 0],.cl g4 28 [.int .i64 0,.int .i64 0,.int .i64 0,.int .i64 0,.int .i64 0,.int .i64 0,.int .i64 0,.int .i64 0,.int .i64 0,.int .i64 0,.int .i64 0,.slice none 0 0,.slice none 0 0,.slice none 0 0,.bool false],.cl g2 28 (NC q.V)]) ?_ ?_
 rotate_left
 · rintro⟨V,F,e⟩ ⟨hc,hwV,hF,he⟩
   dsimp only at hc hwV hF he ⊢
   rw[he]
   repeat' refine nx ?_
   refine cT [false,true,false,false,true] (fun _=>True) ak (by kernel_rfl) J J (fun _ _=>trivial) ?_
   iterate 2 refine yv ?_
   refine kU ae 3 J J J J J J J J J J J J (fun w1 hM=>⟨hM.mask [false,true,false,false,true] rfl,trivial⟩) ?_
   refine lG ae 2 J J J J J J J J J J J J ?_
   repeat' refine nx ?_
   refine aI ae (fun t=>cond (Nat.beq t 4) 3 2) J J ⟨J,J,trivial⟩ rfl fun w1 hm=>⟨V,(none,0),hc,rfl,aL (hm.2.get (i:=0) rfl).2.1 hF hm.below,hwV,bV⟩
 repeat' refine nx ?_
 by_cases hk0:o.kind=0
 · refine af rfl (by simpa using hk0) ?_
   repeat' refine nx ?_
   have e1:cx v.c o=(bN v.c o.h o.n).1:=by unfold cx;rw[if_pos hk0]
   have e2:bY v.c o=⟨(bN v.c o.h o.n).2.2,(bN v.c o.h o.n).2.1,⟨#[]⟩,false,[]⟩:=by unfold bY;rw[if_pos hk0]
   rw[e1,e2]
   refine aR bd (fun w1 hm=>AA v o.h hx hc o.n w1 (hN.lt.below hm.below) hw hv hms (hO.hR.lt.below hm.below) (yu hO.hd) (oY o.h hO.hd)) ?_
   rintro V1 F1 hc1 hw1 hF1
   repeat' (first|(refine al ?_;intro g8)|refine nx ?_)
   refine aI ae (fun t=>cond (Nat.beq t 4) 4 3) J J ⟨J,J,trivial⟩ rfl fun w1 hm=>⟨V1,(none,0),hc1,rfl,aL (hm.2.get (i:=1) rfl).2.1 hF1 hm.below,hw1,bV⟩
 refine aa rfl (by simpa using hk0) ?_
 repeat' refine nx ?_
 by_cases hk1:o.kind=1
 · refine af rfl (by simpa using hk1) ?_
   repeat' refine nx ?_
   refine aR bd (fun w1 hm=>Al v o.id o.msg w1 (hN.lt.below hm.below) hw hz hgd (by omega) hob) ?_
   rintro V1 F1 hc1 hw1 hF1
   repeat' refine nx ?_
   refine cJ (⟨V1,F1,(lf v.c o.id o.msg).2⟩:QS) [true,true,true,true,false,true] ⟨by rw[hc1];unfold cx;rw[if_neg hk0,if_pos hk1];rw[yw hv],hw1,hF1,by unfold bY;rw[if_neg hk0,if_pos hk1];rw[yw hv]⟩ ⟨J,J,J,J,J,trivial⟩ rfl
 refine aa rfl (by simpa using hk1) ?_
 repeat' refine nx ?_
 by_cases hk2:o.kind=2
 · refine af rfl (by simpa using hk2) ?_
   repeat' refine nx ?_
   refine aR bd (fun w1 hm=>Ak v o.id w1 (hN.lt.below hm.below) hw hz hgd (by omega) hob) ?_
   rintro V1 F1 hc1 hw1 hF1
   repeat' refine nx ?_
   refine cJ (⟨V1,F1,(nE v.c o.id).2⟩:QS) [true,true,true,true,false,true] ⟨by rw[hc1];unfold cx;rw[if_neg hk0,if_neg hk1,if_pos hk2];rw[yx hv],hw1,hF1,by unfold bY;rw[if_neg hk0,if_neg hk1,if_pos hk2];rw[yx hv]⟩ ⟨J,J,J,J,J,trivial⟩ rfl
 refine aa rfl (by simpa using hk2) ?_
 repeat' refine nx ?_
 by_cases hk3:o.kind=3
 · refine af rfl (by simpa using hk3) ?_
   repeat' refine nx ?_
   refine aR bd (fun w1 hm=>Av v o.id o.tc o.tt w1 (hN.lt.below hm.below) hw hv hms htt) ?_
   rintro V1 F1 hc1 hw1 hF1
   repeat' refine nx ?_
   refine cJ (⟨V1,F1,(lg v.c o.id o.tc o.tt).2⟩:QS) [true,true,true,true,false,true] ⟨by rw[hc1];unfold cx;rw[if_neg hk0,if_neg hk1,if_neg hk2,if_pos hk3];rw[yy hv],hw1,hF1,by unfold bY;rw[if_neg hk0,if_neg hk1,if_neg hk2,if_pos hk3];rw[yy hv]⟩ ⟨J,J,J,J,J,trivial⟩ rfl
 refine aa rfl (by simpa using hk3) ?_
 repeat' refine nx ?_
 by_cases hk4:o.kind=4
 · refine af rfl (by simpa using hk4) ?_
   repeat' refine nx ?_
   refine aR bd (fun w1 hm=>Au v o.id o.n w1 (hN.lt.below hm.below) hw hv hms) ?_
   rintro V1 F1 hc1 hw1 hF1
   repeat' refine nx ?_
   refine cJ (⟨V1,F1,(lh v.c o.id o.n).2⟩:QS) [true,true,true,true,false,true] ⟨by rw[hc1];unfold cx;rw[if_neg hk0,if_neg hk1,if_neg hk2,if_neg hk3,if_pos hk4];rw[yz],hw1,hF1,by unfold bY;rw[if_neg hk0,if_neg hk1,if_neg hk2,if_neg hk3,if_pos hk4];rw[yz]⟩ ⟨J,J,J,J,J,trivial⟩ rfl
 refine aa rfl (by simpa using hk4) ?_
 repeat' refine nx ?_
 by_cases hk5:o.kind=5
 · refine af rfl (by simpa using hk5) ?_
   repeat' refine nx ?_
   have e1:cx v.c o=(de v.c o.id).1:=by unfold cx;rw[if_neg hk0,if_neg hk1,if_neg hk2,if_neg hk3,if_neg hk4,if_pos hk5]
   have e2:bY v.c o=⟨0,0,(de v.c o.id).2.1,(de v.c o.id).2.2,[]⟩:=by unfold bY;rw[if_neg hk0,if_neg hk1,if_neg hk2,if_neg hk3,if_neg hk4,if_pos hk5]
   rw[e1,e2]
   refine aR bd (fun w1 hm=>CJ v o.id w1 (hN.lt.below hm.below) hw hv hms) ?_
   rintro V1 F1 hc1 hw1 hF1
   repeat' (first|(refine al ?_;intro g11)|refine nx ?_)
   refine aI ae (fun t=>cond (Nat.beq t 4) 4 3) J J ⟨J,J,trivial⟩ rfl fun w1 hm=>⟨V1,(none,0),hc1,rfl,aL (hm.2.get (i:=1) rfl).2.1 hF1 hm.below,hw1,bV⟩
 refine aa rfl (by simpa using hk5) ?_
 repeat' refine nx ?_
 by_cases hk6:o.kind=6
 · refine af rfl (by simpa using hk6) ?_
   repeat' refine nx ?_
   refine aR bd (fun w1 hm=>xu v o.f w1 (hN.lt.below hm.below) hw hv hms hfd) ?_
   rintro V1 F1 hc1 hw1 hF1
   repeat' refine nx ?_
   refine cJ (⟨V1,F1,(ci v.c o.f).2⟩:QS) [true,true,true,true,false,true] ⟨by rw[hc1];unfold cx;rw[if_neg hk0,if_neg hk1,if_neg hk2,if_neg hk3,if_neg hk4,if_neg hk5,if_pos hk6],hw1,hF1,by unfold bY;rw[if_neg hk0,if_neg hk1,if_neg hk2,if_neg hk3,if_neg hk4,if_neg hk5,if_pos hk6]⟩ ⟨J,J,J,J,J,trivial⟩ rfl
 refine aa rfl (by simpa using hk6) ?_
 repeat' refine nx ?_
 by_cases hk7:o.kind=7
 · refine af rfl (by simpa using hk7) ?_
   repeat' refine nx ?_
   have e1:cx v.c o=(kD v.c).1:=by unfold cx;rw[if_neg hk0,if_neg hk1,if_neg hk2,if_neg hk3,if_neg hk4,if_neg hk5,if_neg hk6,if_pos hk7]
   have e2:bY v.c o=⟨0,0,⟨#[]⟩,false,(kD v.c).2⟩:=by unfold bY;rw[if_neg hk0,if_neg hk1,if_neg hk2,if_neg hk3,if_neg hk4,if_neg hk5,if_neg hk6,if_pos hk7]
   rw[e1,e2]
   refine aR bd (fun w1 hm=>Am v w1 (hN.lt.below hm.below) hw) ?_
   rintro V1 F1 hc1 hw1 hF1
   repeat' (first|(refine al ?_;intro g14)|refine nx ?_)
   refine aI ae (fun t=>cond (Nat.beq t 4) 4 3) J J ⟨J,J,trivial⟩ rfl fun w1 hm=>⟨V1,(v.o,v.oc),hc1,rfl,aL (hm.2.get (i:=1) rfl).2.1 hF1 hm.below,hw1,(hN.ou.below hm.below).mono fun _=> .inl⟩
 refine aa rfl (by simpa using hk7) ?_
 repeat' refine nx ?_
 by_cases hk8:o.kind=8
 · refine af rfl (by simpa using hk8) ?_
   repeat' refine nx ?_
   refine aR bd (fun w1 hm=>Ao v o.n w1 (hN.lt.below hm.below) hw (by omega)) ?_
   rintro V1 F1 hc1 hw1 hF1
   repeat' refine nx ?_
   refine cJ (⟨V1,F1,(eE v.c o.n).2⟩:QS) [true,true,true,true,false,true] ⟨by rw[hc1];unfold cx;rw[if_neg hk0,if_neg hk1,if_neg hk2,if_neg hk3,if_neg hk4,if_neg hk5,if_neg hk6,if_neg hk7,if_pos hk8],hw1,hF1,by unfold bY;rw[if_neg hk0,if_neg hk1,if_neg hk2,if_neg hk3,if_neg hk4,if_neg hk5,if_neg hk6,if_neg hk7,if_pos hk8]⟩ ⟨J,J,J,J,J,trivial⟩ rfl
 refine aa rfl (by simpa using hk8) ?_
 repeat' refine nx ?_
 by_cases hk9:o.kind=9
 · refine af rfl (by simpa using hk9) ?_
   repeat' refine nx ?_
   refine aR bd (fun w1 hm=>An v w1 (hN.lt.below hm.below) hw (by omega) hla) ?_
   rintro V1 F1 hc1 hw1 hF1
   repeat' refine nx ?_
   refine cJ (⟨V1,F1,0⟩:QS) [true,true,true,true,false,true] ⟨by rw[hc1];unfold cx;rw[if_neg hk0,if_neg hk1,if_neg hk2,if_neg hk3,if_neg hk4,if_neg hk5,if_neg hk6,if_neg hk7,if_neg hk8,if_pos hk9],hw1,hF1,by unfold bY;rw[if_neg hk0,if_neg hk1,if_neg hk2,if_neg hk3,if_neg hk4,if_neg hk5,if_neg hk6,if_neg hk7,if_neg hk8]⟩ ⟨J,J,J,J,J,trivial⟩ rfl
 refine aa rfl (by simpa using hk9) ?_
 repeat' refine nx ?_
 by_cases hk10:o.kind=10
 · refine af rfl (by simpa using hk10) ?_
   repeat' refine nx ?_
   refine aR bd (fun w1 hm=>jY v w1 (hN.lt.below hm.below) hw hv hms) ?_
   rintro V1 F1 hc1 hw1 hF1
   repeat' refine nx ?_
   refine cJ (⟨V1,F1,0⟩:QS) [true,true,true,true,false,true] ⟨by rw[hc1];unfold cx;rw[if_neg hk0,if_neg hk1,if_neg hk2,if_neg hk3,if_neg hk4,if_neg hk5,if_neg hk6,if_neg hk7,if_neg hk8,if_neg hk9,if_pos hk10],hw1,hF1,by unfold bY;rw[if_neg hk0,if_neg hk1,if_neg hk2,if_neg hk3,if_neg hk4,if_neg hk5,if_neg hk6,if_neg hk7,if_neg hk8]⟩ ⟨J,J,J,J,J,trivial⟩ rfl
 refine aa rfl (by simpa using hk10) ?_
 repeat' refine nx ?_
 by_cases hk11:o.kind=11
 · refine af rfl (by simpa using hk11) ?_
   repeat' refine nx ?_
   refine aR bd (fun w1 hm=>Ay v o.id w1 (hN.lt.below hm.below) hw hv hms) ?_
   rintro V1 F1 hc1 hw1 hF1
   repeat' refine nx ?_
   refine cJ (⟨V1,F1,0⟩:QS) [true,true,true,true,false,true] ⟨by rw[hc1];unfold cx;rw[if_neg hk0,if_neg hk1,if_neg hk2,if_neg hk3,if_neg hk4,if_neg hk5,if_neg hk6,if_neg hk7,if_neg hk8,if_neg hk9,if_neg hk10,if_pos hk11],hw1,hF1,by unfold bY;rw[if_neg hk0,if_neg hk1,if_neg hk2,if_neg hk3,if_neg hk4,if_neg hk5,if_neg hk6,if_neg hk7,if_neg hk8]⟩ ⟨J,J,J,J,J,trivial⟩ rfl
 refine aa rfl (by simpa using hk11) ?_
 repeat' refine nx ?_
 refine⟨fun a w1 hS hM=> ?_⟩
 refine SQ.run (M:=[.rep _ (fun w=>NOk _ w v),.cl g6 61 [.int .i64 0,.int .i64 0,.string ⟨#[]⟩,.bool false,.slice none 0 0],.cl g5 61 [.int .i64 0,.int .i64 0,.string ⟨#[]⟩,.bool false,.slice none 0 0],.cl g4 28 [.int .i64 0,.int .i64 0,.int .i64 0,.int .i64 0,.int .i64 0,.int .i64 0,.int .i64 0,.int .i64 0,.int .i64 0,.int .i64 0,.int .i64 0,.slice none 0 0,.slice none 0 0,.slice none 0 0,.bool false],.cl g3 67 [.int .i64 o.kind,.int .i64 o.id,.int .i64 o.n,.string o.msg,.string o.h.svc,.string o.h.mth,.int .i64 o.h.late,.slice hx o.h.metas.length hc,.int .i64 o.f.kind,.int .i64 o.f.strm,.int .i64 o.f.num,.string o.f.data,.int .i64 o.tc,.string o.tt],.cl g2 28 (NC v)]) ?_ a w1 hS (nk hM hN)
 refine cJ (⟨v,_,0⟩:QS) [true,true,true,true,false,true] ⟨by unfold cx;rw[if_neg hk0,if_neg hk1,if_neg hk2,if_neg hk3,if_neg hk4,if_neg hk5,if_neg hk6,if_neg hk7,if_neg hk8,if_neg hk9,if_neg hk10,if_neg hk11],hw,fun b hb=>hb.1.elim (fun h=> .inl h.1) (fun h=> .inr (Nat.le_trans hM.1.size h)),by unfold bY;rw[if_neg hk0,if_neg hk1,if_neg hk2,if_neg hk3,if_neg hk4,if_neg hk5,if_neg hk6,if_neg hk7,if_neg hk8]⟩ ⟨J,J,J,J,J,trivial⟩ rfl
end
end Go.Proofs.YthiocbcokfondaaGreatDoor.Y
