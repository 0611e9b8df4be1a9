import Derived.Test.YthiocbcokfondaaGreatDoorJBunN8
import Derived.Test.YthiocbcokfondaaGreatDoorJBunH
set_option maxRecDepth 100000
set_option maxHeartbeats 32000000
namespace Go.Proofs.YthiocbcokfondaaGreatDoor.Y
section
open Go.RowKit
theorem GN(s:ByteArray):∀x∈sC s,x.oneCell'=true:=dY rfl
theorem Fy(s:bZ)(f:aS)(r:xN)(h:bu s f=r)(w:World)(htx:s.text.size≤4611686018427387900)(hfd:f.data.size<4294967281):Calls Tryz.prog 175 #[.agg #[.int .i64 s.id,.int .i64 s.side,.int .i64 s.shape,.int .i64 s.sent,.int .i64 s.got,.bool s.se,.bool s.ge,.bool s.done,.int .i64 s.code,.string s.text,.int .i64 s.snd.size,.int .i64 s.snd.left,.int .i64 s.snd.held,.int .i64 s.rcv.size,.int .i64 s.rcv.left,.int .i64 s.rcv.held],.agg #[.int .i64 f.kind,.int .i64 f.strm,.int .i64 f.num,.string f.data]] w fun e w'=>e= .returned (.tuple #[.agg ⟨tC r.st⟩,.int .i64 r.err])∧Below w.heap.size w w':=by
 subst h
 exact zi s.id s.side s.shape s.sent s.got s.se s.ge s.done s.code s.text s.snd.size s.snd.left s.snd.held s.rcv.size s.rcv.left s.rcv.held f.kind f.strm f.num f.data w htx hfd
attribute [local irreducible] Calls
theorem Ax(sd k:Int)(w:World):Calls Tryz.prog 120 #[.int .i64 sd,.int .i64 k] w fun e w'=>e= .returned (.bool (og sd k))∧Below w.heap.size w w':=by
 refine ai Tryz.func120 rfl Tryz.ntmps120 J J ?_
 repeat' refine nx ?_
 by_cases h:sd=2
 · refine af rfl (by simpa using h) ?_
   repeat' refine nx ?_
   refine rt ?_
   exact fun w1 hm=>⟨by unfold og;rw[if_pos h],hm.below⟩
 · refine aa rfl (by simpa using h) ?_
   repeat' refine nx ?_
   refine rt ?_
   exact fun w1 hm=>⟨by unfold og;rw[if_neg h],hm.below⟩
theorem GO(sd k:Int)(b:Bool)(h:og sd k=b)(w:World):Calls Tryz.prog 120 #[.int .i64 sd,.int .i64 k] w fun e w'=>e= .returned (.bool b)∧Below w.heap.size w w':=by
 subst h
 exact Ax sd k w
theorem Ay{A:Nat→Prop}(v:NV)(id:Int)(w:World)(hN:NOk A w v)(hw:fW v)(hv:VN v.c)(hms:aX v.c≤400000000):Calls Tryz.prog 66 #[.agg #[.int .i64 v.c.sd,.int .i64 v.c.nx,.int .i64 v.c.la,.int .i64 v.c.aw,.int .i64 v.c.sz,.int .i64 v.c.sw.size,.int .i64 v.c.sw.left,.int .i64 v.c.sw.held,.int .i64 v.c.rw.size,.int .i64 v.c.rw.left,.int .i64 v.c.rw.held,.slice v.x v.kv.length v.xc,.slice v.o v.c.ou.length v.oc,.slice v.p v.c.pg.length v.pc,.bool v.c.cl],.int .i64 id] w fun e w'=> ∃v':NV,v'.c=fH v.c id∧e= .returned (.agg ⟨NC v'⟩)∧OutN A w w' v'∧fW v':=by
 refine ai Tryz.func66 rfl Tryz.ntmps66 J J ?_
 have hz:=(hv.toVB.szl (by omega)).n hN
 have hgd:=(hv.toVB.szl (by omega)).g hN
 have hzk:=hz.ks
 have hol:v.c.ou.length≤400000000:=by have h9:=hms;unfold aX at h9;omega
 obtain⟨o,ho⟩:∃o,bX id v.c.ks 0=o:=⟨_,rfl⟩
 repeat' (first|(refine bx ?_;intro g2)|(refine al ?_;intro g4)|refine cl (fun w hm=>qE v id o w (hN.below hm.below) (by omega) ho) ?_|refine nx ?_)
 cases o with
 |none=>
  have hg:fH v.c id=v.c:=by unfold fH;rw[ho]
  repeat' (first|refine vx rfl (pq J J) ?_|refine vx rfl (pj (.bool false) J J) ?_|refine nx ?_)
  refine af J J ?_
  repeat' refine nx ?_
  refine rt ?_
  exact fun w1 hm=>⟨v,by rw[hg],rfl,OutN.same hN hm.below,hw⟩
 |some i=>
  obtain⟨q,hq,_⟩:=dR ho
  obtain⟨u,hu,huk⟩:∃u,v.kv[i]? =some u∧u.k=q:=by rw[hN.eq,List.getElem?_map]at hq;simpa using hq
  subst huk
  have hat:=gB hN.eq hu
  have hum:=List.mem_of_getElem? hu
  have hwu:=hw.k u hum
  have htx:=hgd.tx u hum
  have hfr:=hgd.fr u hum
  have hi:i<v.kv.length:=(List.getElem?_eq_some_iff.1 hu).1
  obtain⟨bb,boff,hx,_,_,hrows⟩:=hN.ks (by omega)
  have hrow:w.rangeAt bb (boff+i * 22) (KC u):=hrows i u hu
  have hcell:w.cell? ⟨bb,boff+i * 22+7,none⟩=some (.bool u.k.st.done):=hrows i u hu 7 _ rfl
  have hng:decide (((i:Nat):Int)<0)=false:=decide_eq_false (by omega)
  have hci:v.c.ks[i]? =some u.k:=by rw[hN.eq,List.getElem?_map,hu];rfl
  rw[hx,show DH (some i)=((i:Nat):Int)from rfl]
  repeat' (first|refine vx rfl (ia (m:=22) i hi) ?_|refine vx rfl (dd ae (v:= .bool u.k.st.done) J J J J J (fun _=>hcell)) ?_|refine nx ?_)
  by_cases hd:u.k.st.done=true
  rotate_left
  · have hd':u.k.st.done=false:=eq_false_of_ne_true hd
    have hg:fH v.c id=v.c:=by unfold fH;rw[ho];dsimp only;rw[hat,if_pos hd']
    refine af rfl (by rw[hd'];simp) ?_
    rw[←hx]
    repeat' refine nx ?_
    refine rt ?_
    exact fun w1 hm=>⟨v,by rw[hg],rfl,OutN.same hN hm.below,hw⟩
  have hg:fH v.c id=gbC {v.c with ks:=v.c.ks.eraseIdx i}:=by unfold fH;rw[ho];dsimp only;rw[hat,if_neg (by rw[hd];simp)]
  refine aa rfl (by rw[hd];show(decide (((i:Nat):Int)<0)|| !true)=false;rw[hng];rfl) ?_
  have hcap:=hw.xl
  have hks:Rws A w 22 KC (some ⟨bb,boff,none⟩) v.kv:=hx ▸ hN.ks
  have htk:(v.kv.take i).length=i:=by rw[List.length_take];omega
  have hdr:(v.kv.drop (i+1)).length=v.kv.length - (i+1):=List.length_drop
  have hlq:0+i+(v.kv.length - (i+1))=(v.kv.eraseIdx i).length:=by rw[List.length_eraseIdx,if_pos hi];omega
  have hfl:[]++(v.kv.take i).flatMap KC++(v.kv.drop (i+1)).flatMap KC=(v.kv.eraseIdx i).flatMap KC:=by rw[List.eraseIdx_eq_take_drop_succ,List.flatMap_append,List.nil_append]
  have hve:=hv.erase hci
  repeat' (first|refine vx rfl (qi (v:= .slice (some ⟨bb,boff,none⟩) i v.xc) (dQ ae 0 i J J J J J J J J J J J (by omega) (by omega)) (GG bb boff i v.xc)) ?_|refine nx ?_)
  refine kR 39 22 ?_
  refine gI (v.kv.take i) ae 0 J J J J htk.symm J J J J (fun _ _=>rfl) gW (fun h=>by cases h) aO kz (fun w1 hm=>⟨_,(hks.take fun j y hy=>(by rw[List.getElem?_take]at hy;split at hy;exact hy;cases hy)).below hm.below⟩) (by unfold maxLen;omega) (by omega) J J ?_
  intro sa sc
  repeat' (first|refine vx rfl (qi (v:= .slice (oZ bb boff (i+1) v.xc) (v.kv.length - (i+1)) (v.xc - (i+1))) (dQ ae (i+1) v.kv.length J J J J J J J J J J J (by omega) hw.xl) (GH bb boff (i+1) v.kv.length v.xc)) ?_|refine vx rfl (bm J J J J J (by omega)) ?_|refine nx ?_)
  refine gI (v.kv.drop (i+1)) ae 0 J J J J hdr.symm J J J J (fun _ _=>rfl) gW (fun h=>qV h) aO kz (fun w1 hm=>⟨_,(vW hks hw.xl).below hm.below⟩) (by unfold maxLen;omega) (by omega) J J ?_
  intro se sf
  rw[hlq]
  repeat' refine nx ?_
  refine pD (A:=A) 0 (v.kv.eraseIdx i) aO J J hfl fun hs1 hs2 hs3=> ?_
  refine aR (lD (A:=A) 0 hs3 rfl) (fun w1 hm=>my (⟨{v.c with ks:=v.c.ks.eraseIdx i},se,sf,v.kv.eraseIdx i,v.o,v.oc,v.p,v.pc⟩:NV) w1 ⟨(hm.2.get (i:=0) rfl).2.1.mono fun _=> .inl,(hN.lt.below hm.below).ou.mono fun _=> .inr,(hN.lt.below hm.below).pg.mono fun _=> .inr,by dsimp only;rw[hN.eq,List.eraseIdx_eq_take_drop_succ,List.eraseIdx_eq_take_drop_succ,List.map_append,List.map_take,List.map_drop],fun y hy=>((hN.lt.below hm.below).ok y (List.mem_of_mem_eraseIdx hy)).mono fun _=> .inr⟩ ⟨hs1,hw.o,hw.p,hs2,hw.ol,hw.pl,fun y hy=>hw.k y (List.mem_of_mem_eraseIdx hy)⟩ hve.rw hve.tt (by show(v.kv.eraseIdx i).length≤_;omega) (by show v.c.ou.length≤_;omega)) ?_
  rintro V1 F1 hc1 hw1 hF1
  repeat' refine nx ?_
  rw[hg]
  refine rt ?_
  exact fun w1 hm=>⟨V1,hc1,rfl,aL (hm.2.get (i:=0) rfl).2.1 hF1 hm.below,hw1⟩
theorem sZ{A:Nat→Prop}(v:NV)(f:aS)(w:World)(hN:NOk A w v)(hw:fW v)(hv:VN v.c)(hms:aX v.c≤400000000)(hcl:v.c.cl=false)(hf:aA f=0)(hkk:2≤f.kind∧f.kind≤6):Calls Tryz.prog 123 #[.agg #[.int .i64 v.c.sd,.int .i64 v.c.nx,.int .i64 v.c.la,.int .i64 v.c.aw,.int .i64 v.c.sz,.int .i64 v.c.sw.size,.int .i64 v.c.sw.left,.int .i64 v.c.sw.held,.int .i64 v.c.rw.size,.int .i64 v.c.rw.left,.int .i64 v.c.rw.held,.slice v.x v.kv.length v.xc,.slice v.o v.c.ou.length v.oc,.slice v.p v.c.pg.length v.pc,.bool v.c.cl],.agg #[.int .i64 f.kind,.int .i64 f.strm,.int .i64 f.num,.string f.data]] w fun e w'=> ∃v':NV,v'.c=gh v.c f∧e= .returned (.agg ⟨NC v'⟩)∧OutN A w w' v'∧fW v':=by
 refine ai Tryz.func123 rfl Tryz.ntmps123 J J ?_
 have hz:=(hv.toVB.szl (by omega)).n hN
 have hgd:=(hv.toVB.szl (by omega)).g hN
 have hzk:=hz.ks
 have hol:v.c.ou.length≤400000000:=by have h9:=hms;unfold aX at h9;omega
 have hfd:f.data.size<4294967281:=by have:=(eT hf).1;omega
 obtain⟨o,ho⟩:∃o,bX f.strm v.c.ks 0=o:=⟨_,rfl⟩
 repeat' (first|(refine bx ?_;intro g3)|(refine al ?_;intro g4)|refine cl (fun w hm=>qE v f.strm o w (hN.below hm.below) (by omega) ho) ?_|refine nx ?_)
 cases o with
 |none=>
  have hg:gh v.c f=v.c:=by unfold gh;rw[ho]
  refine af J J ?_
  repeat' refine nx ?_
  refine rt ?_
  exact fun w1 hm=>⟨v,by rw[hg],rfl,OutN.same hN hm.below,hw⟩
 |some i=>
  obtain⟨q,hq,_⟩:=dR ho
  obtain⟨u,hu,huk⟩:∃u,v.kv[i]? =some u∧u.k=q:=by rw[hN.eq,List.getElem?_map]at hq;simpa using hq
  subst huk
  have hat:=gB hN.eq hu
  have hum:=List.mem_of_getElem? hu
  have hwu:=hw.k u hum
  have htx:=hgd.tx u hum
  have hfr:=hgd.fr u hum
  have hi:i<v.kv.length:=(List.getElem?_eq_some_iff.1 hu).1
  obtain⟨bb,boff,hx,_,_,hrows⟩:=hN.ks (by omega)
  have hrow:w.rangeAt bb (boff+i * 22) (KC u):=hrows i u hu
  have hci:v.c.ks[i]? =some u.k:=by rw[hN.eq,List.getElem?_map,hu];rfl
  have hlk:i<v.c.ks.length:=(List.getElem?_eq_some_iff.1 hci).1
  have hob1:v.c.ou.length+u.k.ob.length≤400000000:=by
   have h8:=jk (k:=u.k) (l:=v.c.ks) (List.mem_of_getElem? hci)
   have h9:=hms
   unfold aX at h9
   omega
  have hib0:u.k.ib.length≤1048576:=by
   have h6:=gY u.k.ib
   have h7:=nA (List.mem_of_getElem? hci)
   have h8:=aW.1 hv.rw
   have h9:=hv.tt
   omega
  obtain⟨r,hr⟩:∃r,bu u.k.st f=r:=⟨_,rfl⟩
  have htx2:r.st.text.size≤4611686018427387900:=by rw[←hr];exact BN htx hfd
  have hOl:=(hN.lt.ok u hum)
  refine aa rfl (decide_eq_false (show¬ ((i:Nat):Int)<0 by omega)) ?_
  rw[hx]
  repeat' (first|refine vx rfl (ia (m:=22) i hi) ?_|refine vx rfl (rj (cs:=KC u) hrow) ?_|(refine al ?_;intro g6)|(refine al ?_;intro g7)|refine cl (fun w hm=>Fy u.k.st f r hr w htx hfd) ?_|refine nx ?_)
  rw[←hx]
  by_cases he:r.err=0
  rotate_left
  · have hg:pb v.c f=sY v.c i u.k:=by unfold pb;rw[ho];dsimp only;rw[hat,hr,if_pos he]
    refine af rfl (by simpa using he) ?_
    repeat' refine nx ?_
    refine aR bd (fun w1 hm=>Aw v i u w1 (hN.lt.below hm.below) hw hu hzk htx (by omega)) ?_
    rintro V1 F1 hc1 hw1 hF1
    repeat' refine nx ?_
    refine rt ?_
    exact fun w1 hm=>⟨V1,by rw[hc1,←ud hv hcl hf hkk,hg],rfl,aL (hm.2.get (i:=0) rfl).2.1 hF1 hm.below,hw1⟩
  refine aa rfl (by simpa using he) ?_
  repeat' refine nx ?_
  by_cases hcd:f.kind=2∧u.k.st.done=false
  · have hg:pb v.c f=jl {v.c with ks:=v.c.ks.set i {u.k with st:=r.st,ib:=u.k.ib++[f.data]}} i {u.k with st:=r.st,ib:=u.k.ib++[f.data]}:=by
     unfold pb
     rw[ho]
     dsimp only
     rw[hat,hr,if_neg (by rw[he];simp)]
     unfold jX
     rw[if_pos hcd,hr]
    refine af rfl (by rw[hcd.1,hcd.2];rfl) ?_
    repeat' refine nx ?_
    refine kR 9 1 ?_
    refine gI u.k.ib ae 0 J J J J J J J J J (fun _ _=>rfl) xK hwu.i eX GN (fun w1 hm=>⟨_,hOl.2.1.below hm.below⟩) (by unfold maxLen;omega) (by omega) J J ?_
    intro sa sc
    repeat' (first|(refine cc ae J J J ⟨J,trivial⟩ J J J J J J J J ?_;intro g)|(refine bB ae 1 0 J J J J J J J J J (fun _ _=>rfl) xK J J (by unfold maxLen;omega) (by omega) J J ?_;intro sb sd)|refine nx ?_)
    have hlq:0+u.k.ib.length+1=(u.k.ib++[f.data]).length:=by simp
    have hfl:[]++u.k.ib.flatMap sC++sC f.data=(u.k.ib++[f.data]).flatMap sC:=by simp
    rw[hlq]
    refine pD (A:=A) 1 (u.k.ib++[f.data]) eX J J hfl fun hs1 hs2 hs3=> ?_
    refine aR (lD (A:=A) 0 hs3 rfl) (fun w1 hm=>eB v i ({u with k:={u.k with st:=r.st,ib:=u.k.ib++[f.data]},i:=sb,ic:=sd}:KV) w1 ((hN.lt.below hm.below).mono fun _=> .inr) hw hi hzk ⟨(hOl.1.below hm.below).mono fun _=> .inr,(hm.2.get (i:=0) rfl).2.1.mono fun _=> .inl,(hOl.2.2.below hm.below).mono fun _=> .inr⟩ ⟨hs1,hwu.o,hwu.m,hs2,hwu.ol⟩) ?_
    rintro V1 F1 hc1 hw1 hF1
    refine df (p:=V1.c.ks=V1.kv.map (·.k)) (fun w1 hM=>(hM.2.get (i:=0) rfl).2.1.eq) fun heq1=> ?_
    have hl1:V1.kv.length≤400000000:=by
     rw[mw heq1,hc1]
     show(v.c.ks.set i _).length≤_
     rw[List.length_set]
     have h9:=hms
     unfold aX at h9
     omega
    obtain⟨u1,hat1,h1k⟩:=yb (V:=V1) (i:=i) (k:=({u with k:={u.k with st:=r.st,ib:=u.k.ib++[f.data]},i:=sb,ic:=sd}:KV).k) heq1 (by rw[hc1];exact List.getElem?_set_self hlk)
    repeat' refine nx ?_
    refine aR (eS 0 hF1 rfl) (fun w1 hm=>lH V1 i u1 w1 (hm.2.get (i:=0) rfl).2.1 hw1 hat1 (by omega) (by rw[h1k];exact htx2) (by rw[h1k];exact hfr) (by rw[h1k,hc1];exact Nat.le_trans hob1 (by decide))) ?_
    rintro V2 F2 hc2 hw2 hF2
    repeat' refine nx ?_
    refine rt ?_
    exact fun w1 hm=>⟨V2,by rw[hc2,hc1,h1k,←ud hv hcl hf hkk,hg],rfl,aL (hm.2.get (i:=0) rfl).2.1 hF2 hm.below,hw2⟩
  · have hg:pb v.c f=jl {v.c with ks:=v.c.ks.set i {u.k with st:=r.st}} i {u.k with st:=r.st}:=by
     unfold pb
     rw[ho]
     dsimp only
     rw[hat,hr,if_neg (by rw[he];simp)]
     unfold jX
     rw[if_neg hcd,hr]
    refine aa rfl (by
     cases h2:u.k.st.done with
     |true=>simp
     |false=>simpa using fun h1=>hcd ⟨h1,h2⟩) ?_
    repeat' refine nx ?_
    refine aR bd (fun w1 hm=>eB v i ({u with k:={u.k with st:=r.st}}:KV) w1 (hN.lt.below hm.below) hw hi hzk ⟨hOl.1.below hm.below,hOl.2.1.below hm.below,hOl.2.2.below hm.below⟩ ⟨hwu.i,hwu.o,hwu.m,hwu.il,hwu.ol⟩) ?_
    rintro V1 F1 hc1 hw1 hF1
    refine df (p:=V1.c.ks=V1.kv.map (·.k)) (fun w1 hM=>(hM.2.get (i:=0) rfl).2.1.eq) fun heq1=> ?_
    have hl1:V1.kv.length≤400000000:=by
     rw[mw heq1,hc1]
     show(v.c.ks.set i _).length≤_
     rw[List.length_set]
     have h9:=hms
     unfold aX at h9
     omega
    obtain⟨u1,hat1,h1k⟩:=yb (V:=V1) (i:=i) (k:=({u with k:={u.k with st:=r.st}}:KV).k) heq1 (by rw[hc1];exact List.getElem?_set_self hlk)
    repeat' refine nx ?_
    refine aR (eS 0 hF1 rfl) (fun w1 hm=>lH V1 i u1 w1 (hm.2.get (i:=0) rfl).2.1 hw1 hat1 (by omega) (by rw[h1k];exact htx2) (by rw[h1k];exact hfr) (by rw[h1k,hc1];exact Nat.le_trans hob1 (by decide))) ?_
    rintro V2 F2 hc2 hw2 hF2
    repeat' refine nx ?_
    refine rt ?_
    exact fun w1 hm=>⟨V2,by rw[hc2,hc1,h1k,←ud hv hcl hf hkk,hg],rfl,aL (hm.2.get (i:=0) rfl).2.1 hF2 hm.below,hw2⟩
end
section
open Go.RowKit
theorem GP(s:ByteArray)(R:Dc)(h:bK s=R)(w:World)(hs:s.size<4294967281):Calls Tryz.prog 86 #[.string s] w fun e w'=> ∃p:Option Addr×Nat,True∧e= .returned (.tuple ⟨[.agg ⟨[.string R.head.svc,.string R.head.mth,.int .i64 R.head.late,.slice p.1 R.head.metas.length p.2]⟩,.int .i64 R.err]⟩)∧Made w w' [.own p.1 p.2 93 2 R.head.metas.length (R.head.metas.flatMap mC)]:=by
 subst h
 refine(kV s w hs).mono fun e w' ⟨v,h1,h2,h3⟩=> ?_
 rcases id h2.2 with ⟨hv,h0⟩|⟨g,cap,cur,hv,_⟩
 · subst hv
   refine⟨(none,0),trivial,?_,Made.one (a:=none) (cap:=0) ?_ h3⟩
   · rw[h1,h0]
   · rw[h0]at h2 ⊢;exact h2
 · subst hv
   exact⟨(some ⟨g,0,none⟩,cap),trivial,h1,Made.one h2 h3⟩
theorem CL(id sd sh n:Int)(r:xN)(h:cU id sd sh n=r)(w:World):Calls Tryz.prog 110 #[.int .i64 id,.int .i64 sd,.int .i64 sh,.int .i64 n] w fun e w'=>e= .returned (.tuple #[.agg ⟨tC r.st⟩,.int .i64 r.err])∧Below w.heap.size w w':=by
 subst h
 exact zf id sd sh n w
theorem GQ{A:Nat→Prop}(v:NV)(n:Nat)(h:cP v.c.ks=n)(w:World)(hN:NOk A w v)(hzk:v.kv.length≤606626243774):Calls Tryz.prog 35 #[.agg ⟨NC v⟩] w fun e w'=>e= .returned (.int .i64 ((n:Nat):Int))∧Below w.heap.size w w':=by
 subst h
 exact zl v w hN hzk
attribute [local irreducible] Calls
theorem Az{A:Nat→Prop}(v:NV)(f:aS)(w:World)(hN:NOk A w v)(hw:fW v)(hv:VN v.c)(hms:aX v.c≤400000000)(hf:aA f=0)(hk:f.kind=1):Calls Tryz.prog 121 #[.agg ⟨NC v⟩,.agg #[.int .i64 f.kind,.int .i64 f.strm,.int .i64 f.num,.string f.data]] w fun e w'=> ∃v':NV,v'.c=gb v.c f∧e= .returned (.agg ⟨NC v'⟩)∧OutN A w w' v'∧fW v':=by
 refine ai Tryz.func121 rfl Tryz.ntmps121 J J ?_
 have hz:=(hv.toVB.szl (by omega)).n hN
 have hgd:=(hv.toVB.szl (by omega)).g hN
 have hzk:=hz.ks
 have hol:v.c.ou.length≤400000000:=by have h9:=hms;unfold aX at h9;omega
 have hfd:f.data.size<4294967281:=by have:=(eT hf).1;omega
 have hae:=D7 hv hk hf
 obtain⟨n,hn⟩:∃n,cP v.c.ks=n:=⟨_,rfl⟩
 rw[hn]at hae
 repeat' (first|(refine bx ?_;intro g3)|(refine al ?_;intro g4)|refine cl (fun w hm=>GQ (⟨{v.c with la:=f.strm},v.x,v.xc,v.kv,v.o,v.oc,v.p,v.pc⟩:NV) n hn w (lW (hN.below hm.below) _ J J J) (by show v.kv.length≤_;omega)) ?_|refine nx ?_)
 by_cases hc:v.c.aw≠0∨64≤n
 · rw[if_pos hc]at hae
   refine af rfl (by
    rcases hc with h|h
    · have e1:(v.c.aw !=0)=true:=by simpa using h
      rw[e1];rfl
    · have e1:decide ((64:Int)≤((n:Nat):Int))=true:=decide_eq_true (by omega)
      rw[e1];simp) ?_
   repeat' refine nx ?_
   refine aR bd (fun w1 hm=>eN (⟨{v.c with la:=f.strm},v.x,v.xc,v.kv,v.o,v.oc,v.p,v.pc⟩:NV) (⟨5,f.strm,12,emptyB⟩:aS) w1 (lW (hN.lt.below hm.below) _ J J J) ⟨hw.x,hw.o,hw.p,hw.xl,hw.ol,hw.pl,hw.k⟩ (by show v.c.ou.length≤_;omega)) ?_
   rintro V1 F1 hc1 hw1 hF1
   repeat' refine nx ?_
   rw[hae]
   refine rt ?_
   exact fun w1 hm=>⟨V1,hc1,rfl,aL (hm.2.get (i:=0) rfl).2.1 hF1 hm.below,hw1⟩
 · rw[if_neg hc]at hae
   refine aa rfl (by
    have e1:(v.c.aw !=0)=false:=by simpa using fun h=>hc (.inl h)
    have e2:decide ((64:Int)≤((n:Nat):Int))=false:=decide_eq_false (fun h=>hc (.inr (by omega)))
    rw[e1,e2];rfl) ?_
   obtain⟨r,hr⟩:∃x,cU f.strm 2 f.num v.c.sz=x:=⟨_,rfl⟩
   obtain⟨R,hR⟩:∃x,bK f.data=x:=⟨_,rfl⟩
   rw[hr,hR]at hae
   repeat' (first|(refine al ?_;intro g5)|refine cl (fun w hm=>CL f.strm 2 f.num v.c.sz r hr w) ?_|refine nx ?_)
   refine cM (σ:=Option Addr×Nat) (fun _=>True) (fun p=> .tuple ⟨[.agg ⟨[.string R.head.svc,.string R.head.mth,.int .i64 R.head.late,.slice p.1 R.head.metas.length p.2]⟩,.int .i64 R.err]⟩) (fun p=>[.own p.1 p.2 93 2 R.head.metas.length (R.head.metas.flatMap mC)]) rfl (ag J J J J ⟨J,trivial⟩ rfl (by kernel_rfl)) (fun w1 hm=>GP f.data R hR w1 hfd) J J ?_
   rintro⟨pm,pmc⟩ -
   dsimp only[List.cons_append,List.nil_append]
   repeat' (first|(refine al ?_;intro g7)|refine nx ?_)
   refine kR 39 22 ?_
   refine gI v.kv ae 0 J J J J J J J J J (fun _ _=>rfl) gW hw.x aO kz (fun w1 hm=>⟨_,(hN.lt.below hm.below).ks⟩) (by unfold maxLen;omega) (by omega) J J ?_
   intro sa sc
   repeat' (first|refine vx rfl (bm J J J J J (by omega)) ?_|(refine cc ae J J J ⟨J,trivial⟩ J J J J J J J J ?_;intro g)|(refine bB ae 1 0 J J J J J J J J J (fun _ _=>rfl) gW J J (by unfold maxLen;omega) (by omega) J J ?_;intro sb sd)|refine nx ?_)
   have hlq:0+v.kv.length+1=(v.kv++[(⟨(⟨r.st,R.head.svc,R.head.mth,R.head.late,R.head.metas,[],[]⟩:KR),pm,pmc,none,0,none,0⟩:KV)]).length:=by simp
   have hfl:[]++v.kv.flatMap KC++KC (⟨(⟨r.st,R.head.svc,R.head.mth,R.head.late,R.head.metas,[],[]⟩:KR),pm,pmc,none,0,none,0⟩:KV)=(v.kv++[(⟨(⟨r.st,R.head.svc,R.head.mth,R.head.late,R.head.metas,[],[]⟩:KR),pm,pmc,none,0,none,0⟩:KV)]).flatMap KC:=by simp
   rw[hlq]
   repeat' refine nx ?_
   rw[hae]
   refine rt ?_
   refine fun w1 hm=>⟨(⟨{v.c with la:=f.strm,ks:=v.c.ks++[(⟨r.st,R.head.svc,R.head.mth,R.head.late,R.head.metas,[],[]⟩:KR)]},sb,sd,v.kv++[(⟨(⟨r.st,R.head.svc,R.head.mth,R.head.late,R.head.metas,[],[]⟩:KR),pm,pmc,none,0,none,0⟩:KV)],v.o,v.oc,v.p,v.pc⟩:NV),rfl,rfl,?_,?_⟩
   · exact⟨⟨(Rws.own aO (hfl ▸ (hm.2.get (i:=1) rfl:w1.ownsRow w.heap.size 39 22 (.slice sb (v.kv++[(⟨(⟨r.st,R.head.svc,R.head.mth,R.head.late,R.head.metas,[],[]⟩:KR),pm,pmc,none,0,none,0⟩:KV)]).length sd) (v.kv++[(⟨(⟨r.st,R.head.svc,R.head.mth,R.head.late,R.head.metas,[],[]⟩:KR),pm,pmc,none,0,none,0⟩:KV)]).length ([]++v.kv.flatMap KC++KC (⟨(⟨r.st,R.head.svc,R.head.mth,R.head.late,R.head.metas,[],[]⟩:KR),pm,pmc,none,0,none,0⟩:KV))))).mono fun _=> .inr,(hN.ou.below hm.below).mono fun _=> .inl,(hN.pg.below hm.below).mono fun _=> .inl,(by show v.c.ks++_=(v.kv++_).map _;rw[List.map_append,←hN.eq];rfl),fun y hy=>(List.mem_append.1 hy).elim (fun h=>((hN.ok y h).below hm.below).mono fun _=> .inl) (fun h=>by obtain rfl:=List.mem_singleton.1 h;exact⟨(Rws.own fO (hm.2.get (i:=3) rfl)).mono fun _=> .inr,bV,bV⟩)⟩,hm.below⟩
   · exact⟨mW (hfl ▸ (hm.2.get (i:=1) rfl:w1.ownsRow w.heap.size 39 22 (.slice sb (v.kv++[(⟨(⟨r.st,R.head.svc,R.head.mth,R.head.late,R.head.metas,[],[]⟩:KR),pm,pmc,none,0,none,0⟩:KV)]).length sd) (v.kv++[(⟨(⟨r.st,R.head.svc,R.head.mth,R.head.late,R.head.metas,[],[]⟩:KR),pm,pmc,none,0,none,0⟩:KV)]).length ([]++v.kv.flatMap KC++KC (⟨(⟨r.st,R.head.svc,R.head.mth,R.head.late,R.head.metas,[],[]⟩:KR),pm,pmc,none,0,none,0⟩:KV)))),hw.o,hw.p,fo (hfl ▸ (hm.2.get (i:=1) rfl:w1.ownsRow w.heap.size 39 22 (.slice sb (v.kv++[(⟨(⟨r.st,R.head.svc,R.head.mth,R.head.late,R.head.metas,[],[]⟩:KR),pm,pmc,none,0,none,0⟩:KV)]).length sd) (v.kv++[(⟨(⟨r.st,R.head.svc,R.head.mth,R.head.late,R.head.metas,[],[]⟩:KR),pm,pmc,none,0,none,0⟩:KV)]).length ([]++v.kv.flatMap KC++KC (⟨(⟨r.st,R.head.svc,R.head.mth,R.head.late,R.head.metas,[],[]⟩:KR),pm,pmc,none,0,none,0⟩:KV)))),hw.ol,hw.pl,fun y hy=>(List.mem_append.1 hy).elim (hw.k y) (fun h=>by obtain rfl:=List.mem_singleton.1 h;exact⟨fun _=>rfl,fun _=>rfl,trivial,Nat.zero_le _,Nat.zero_le _⟩)⟩
theorem AA{A:Nat→Prop}(v:NV)(h:io)(hx:Option Addr)(hc:Nat)(sh:Int)(w:World)(hN:NOk A w v)(hw:fW v)(hv:VN v.c)(hms:aX v.c≤400000000)(hH:Rws A w 2 mC hx h.metas)(hhz:fK h)(hds:(oQ h).size<4294967281):Calls Tryz.prog 55 #[.agg ⟨NC v⟩,.agg #[.string h.svc,.string h.mth,.int .i64 h.late,.slice hx h.metas.length hc],.int .i64 sh] w fun e w'=> ∃v':NV,v'.c=(bN v.c h sh).1∧e= .returned (.tuple #[.agg ⟨NC v'⟩,.int .i64 (bN v.c h sh).2.1,.int .i64 (bN v.c h sh).2.2])∧OutN A w w' v'∧fW v':=by
 refine ai Tryz.func55 rfl Tryz.ntmps55 J J ?_
 have hz:=(hv.toVB.szl (by omega)).n hN
 have hgd:=(hv.toVB.szl (by omega)).g hN
 have hzk:=hz.ks
 have hol:v.c.ou.length≤400000000:=by have h9:=hms;unfold aX at h9;omega
 have hla:=hv.la
 have hnx:v.c.nx≤2147483648∧0≤v.c.nx:=by
  rcases hv.sd with h|h
  · have:=hv.n1 h;omega
  · have:=(hv.n2 h).1;omega
 obtain⟨n,hn⟩:∃n,cP v.c.ks=n:=⟨_,rfl⟩
 repeat' (first|(refine bx ?_;intro g4)|(refine al ?_;intro g6)|refine nx ?_)
 by_cases hb1:v.c.sd≠1∨v.c.cl=true∨v.c.aw≠0
 · refine af rfl (by
    rcases hb1 with h|h|h
    · have e1:(v.c.sd !=1)=true:=by simpa using h
      rw[e1];rfl
    · rw[h];simp
    · have e1:(v.c.aw !=0)=true:=by simpa using h
      rw[e1];simp) ?_
   have hE:gV v.c h sh=20:=by rw[nG hv];unfold qX;rw[if_pos hb1]
   have hg:(bN v.c h sh)=(v.c,0,20):=by unfold bN;rw[hE,if_pos (by decide)]
   rw[hg]
   repeat' refine nx ?_
   refine rt ?_
   exact fun w1 hm=>⟨v,rfl,rfl,OutN.same hN hm.below,hw⟩
 refine aa rfl (by
  have e1:(v.c.sd !=1)=false:=by simpa using fun h=>hb1 (.inl h)
  have e2:v.c.cl=false:=eq_false_of_ne_true fun h=>hb1 (.inr (.inl h))
  have e3:(v.c.aw !=0)=false:=by simpa using fun h=>hb1 (.inr (.inr h))
  rw[e1,e2,e3];rfl) ?_
 repeat' (first|refine cl (fun w hm=>GQ v n hn w (hN.below hm.below) (by omega)) ?_|refine nx ?_)
 by_cases hb2:64≤n
 · refine af rfl (decide_eq_true (by omega)) ?_
   have hE:gV v.c h sh=22:=by rw[nG hv];unfold qX;rw[if_neg hb1,if_pos (hn ▸ hb2)]
   have hg:(bN v.c h sh)=(v.c,0,22):=by unfold bN;rw[hE,if_pos (by decide)]
   rw[hg]
   repeat' refine nx ?_
   refine rt ?_
   exact fun w1 hm=>⟨v,rfl,rfl,OutN.same hN hm.below,hw⟩
 refine aa rfl (decide_eq_false (by omega)) ?_
 obtain⟨e1,he1⟩:∃x,bG h=x:=⟨_,rfl⟩
 obtain⟨e2,he2⟩:∃x,aA (fZ v.c h sh)=x:=⟨_,rfl⟩
 repeat' (first|refine cl (fun w hm=>Fb h hx hc e1 he1 w (hH.below hm.below) hhz) ?_|refine nx ?_)
 by_cases hb3:e1=0
 rotate_left
 · refine af rfl (by simpa using hb3) ?_
   have hE:gV v.c h sh=e1:=by rw[nG hv];unfold qX;rw[if_neg hb1,if_neg (hn ▸ hb2),he1,if_pos hb3]
   have hg:(bN v.c h sh)=(v.c,0,e1):=by unfold bN;rw[hE,if_pos hb3]
   rw[hg]
   repeat' refine nx ?_
   refine rt ?_
   exact fun w1 hm=>⟨v,rfl,rfl,OutN.same hN hm.below,hw⟩
 refine aa rfl (by simpa using hb3) ?_
 repeat' (first|(refine al ?_;intro g11)|refine cl (fun w hm=>xe (fZ v.c h sh) e2 he2 w hds) ?_|refine nx ?_)
 by_cases hb4:e2=0
 rotate_left
 · refine af rfl (by simpa using hb4) ?_
   have hE:gV v.c h sh=e2:=by rw[nG hv];unfold qX;rw[if_neg hb1,if_neg (hn ▸ hb2),he1,if_neg (by simpa using hb3),he2]
   have hg:(bN v.c h sh)=(v.c,0,e2):=by unfold bN;rw[hE,if_pos hb4]
   rw[hg]
   repeat' refine nx ?_
   refine rt ?_
   exact fun w1 hm=>⟨v,rfl,rfl,OutN.same hN hm.below,hw⟩
 refine aa rfl (by simpa using hb4) ?_
 obtain⟨r,hr⟩:∃x,cU v.c.nx 1 sh v.c.sz=x:=⟨_,rfl⟩
 have hE:gV v.c h sh=0:=by rw[nG hv];unfold qX;rw[if_neg hb1,if_neg (hn ▸ hb2),he1,if_neg (by simpa using hb3),he2];exact hb4
 have hg:(bN v.c h sh)=({v.c with ks:=v.c.ks++[(⟨r.st,h.svc,h.mth,h.late,h.metas,[],[]⟩:KR)],ou:=v.c.ou++[(fZ v.c h sh)],la:=v.c.nx,nx:=v.c.nx+1},v.c.nx,0):=by unfold bN;rw[hE,if_neg (by simp),hr]
 rw[hg]
 repeat' (first|(refine al ?_;intro g13)|refine cl (fun w hm=>CL v.c.nx 1 sh v.c.sz r hr w) ?_|refine nx ?_)
 refine kR 39 22 ?_
 refine gI v.kv ae 0 J J J J J J J J J (fun _ _=>rfl) gW hw.x aO kz (fun w1 hm=>⟨_,(hN.lt.below hm.below).ks⟩) (by unfold maxLen;omega) (by omega) J J ?_
 intro sa sc
 repeat' (first|refine vx rfl (bm J J J J J (by omega)) ?_|(refine cc ae J J J ⟨J,trivial⟩ J J J J J J J J ?_;intro g)|(refine bB ae 1 0 J J J J J J J J J (fun _ _=>rfl) gW J J (by unfold maxLen;omega) (by omega) J J ?_;intro sb sd)|refine nx ?_)
 have hlq:0+v.kv.length+1=(v.kv++[(⟨(⟨r.st,h.svc,h.mth,h.late,h.metas,[],[]⟩:KR),hx,hc,none,0,none,0⟩:KV)]).length:=by simp
 have hfl:[]++v.kv.flatMap KC++KC (⟨(⟨r.st,h.svc,h.mth,h.late,h.metas,[],[]⟩:KR),hx,hc,none,0,none,0⟩:KV)=(v.kv++[(⟨(⟨r.st,h.svc,h.mth,h.late,h.metas,[],[]⟩:KR),hx,hc,none,0,none,0⟩:KV)]).flatMap KC:=by simp
 rw[hlq]
 refine pD (A:=A) 1 (v.kv++[(⟨(⟨r.st,h.svc,h.mth,h.late,h.metas,[],[]⟩:KR),hx,hc,none,0,none,0⟩:KV)]) aO J J hfl fun hs1 hs2 hs3=> ?_
 repeat' (first|refine vx rfl (bm J J J J J (by omega)) ?_|refine nx ?_)
 refine aR (lD (A:=A) 0 hs3 rfl) (fun w1 hm=>eN (⟨{v.c with ks:=v.c.ks++[(⟨r.st,h.svc,h.mth,h.late,h.metas,[],[]⟩:KR)],la:=v.c.nx,nx:=v.c.nx+1},sb,sd,v.kv++[(⟨(⟨r.st,h.svc,h.mth,h.late,h.metas,[],[]⟩:KR),hx,hc,none,0,none,0⟩:KV)],v.o,v.oc,v.p,v.pc⟩:NV) (fZ v.c h sh) w1 ⟨(hm.2.get (i:=0) rfl).2.1.mono fun _=> .inl,(hN.lt.below hm.below).ou.mono fun _=> .inr,(hN.lt.below hm.below).pg.mono fun _=> .inr,(by show v.c.ks++_=(v.kv++_).map _;rw[List.map_append,←hN.eq];rfl),fun y hy=>(List.mem_append.1 hy).elim (fun h=>((hN.lt.below hm.below).ok y h).mono fun _=> .inr) (fun h=>by obtain rfl:=List.mem_singleton.1 h;exact⟨(hH.lt.below hm.below).mono fun _=> .inr,bV,bV⟩)⟩ ⟨hs1,hw.o,hw.p,hs2,hw.ol,hw.pl,fun y hy=>(List.mem_append.1 hy).elim (hw.k y) (fun h=>by obtain rfl:=List.mem_singleton.1 h;exact⟨fun _=>rfl,fun _=>rfl,trivial,Nat.zero_le _,Nat.zero_le _⟩)⟩ (by show v.c.ou.length≤_;omega)) ?_
 rintro V1 F1 hc1 hw1 hF1
 repeat' refine nx ?_
 refine rt ?_
 exact fun w1 hm=>⟨V1,hc1,rfl,aL (hm.2.get (i:=0) rfl).2.1 hF1 hm.below,hw1⟩
end
end Go.Proofs.YthiocbcokfondaaGreatDoor.Y
