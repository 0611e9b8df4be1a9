import Derived.Test.YthiocbcokfondaaGreatDoorJBunT
import Derived.Test.YthiocbcokfondaaGreatDoorJBunC12
set_option maxRecDepth 100000
set_option maxHeartbeats 32000000
namespace Go.Proofs.YthiocbcokfondaaGreatDoor.Y
section
open Go.RowKit
attribute [local irreducible] Calls
theorem xe(f:aS)(e:Int)(h:aA f=e)(w:World)(hs:f.data.size<4294967281):Calls Tryz.prog 34 #[.agg #[.int .i64 f.kind,.int .i64 f.strm,.int .i64 f.num,.string f.data]] w fun r w'=>r= .returned (.int .i64 e)∧Below w.heap.size w w':=by
 subst h
 exact oT f w hs
theorem Ca{A:Nat→Prop}(v:NV)(n:Int)(h:ba v.c.ks=n)(w:World)(hN:NOk A w v)(hzk:v.kv.length≤606626243774)(htb:ba v.c.ks≤4611686018427387904)(hzi:∀u∈v.kv,u.k.ib.length≤8796093022208):Calls Tryz.prog 36 #[.agg ⟨NC v⟩] w fun e w'=>e= .returned (.int .i64 n)∧Below w.heap.size w w':=by
 subst h
 exact zk v w hN hzk htb hzi
end
section
open Go.RowKit
attribute [local irreducible] Calls
theorem oA{A A':Nat→Prop}(x x':Option Addr)(c c':Nat)(l:List aS)(w:World)(hR:Rws A w 4 fC x l)(hR':Rws A' w 4 fC x' l)(hlen:l.length≤9000000000000000000):Calls Tryz.prog 40 #[.slice x l.length c,.slice x' l.length c'] w fun e w'=>e= .returned (.bool true)∧Below w.heap.size w w':=by
 refine ai Tryz.func40 rfl Tryz.ntmps40 J J ?_
 repeat' refine nx ?_
 refine aa rfl (by simp) ?_
 repeat' refine nx ?_
 refine bT (σ:=Nat) (fun p=>p≤l.length) (fun p=>[(5,[],.int .i64 ((p:Nat):Int)),(0,[],.slice x l.length c),(1,[],.slice x' l.length c')]) (fun _=>[]) (fun p=>l.length-p) 0 [] (Nat.zero_le _) ⟨J,J,J,trivial⟩ rfl ?_
 intro j hj0
 by_cases hj:j<l.length
 · skip
   obtain⟨s,hs⟩:∃s,l[j]? =some s:=⟨l[j],List.getElem?_eq_getElem hj⟩
   obtain⟨bb,off,hx,_,_,hrows⟩:=hR (by omega)
   obtain⟨bb',off',hx',_,_,hrows'⟩:=hR' (by omega)
   have hrow:w.rangeAt bb (off+j * 4) (fC s):=hrows j s hs
   have hrow':w.rangeAt bb' (off'+j * 4) (fC s):=hrows' j s hs
   repeat' refine nx ?_
   refine af rfl (by simp;omega) ?_
   repeat' (first|refine aF ak rfl (by kernel_rfl) ?_|refine bD ?_|((refine' cB rfl ?_ J J J ?_);rotate_left;first|exact dF ae (m:=4) j rfl hx J J J J J J J (fun _=>rfl) (fun _=>hj)|exact dF ae (m:=4) j rfl hx' J J J J J J J (fun _=>rfl) (fun _=>hj)|exact cO ae (cs:=fC s) J J J J J (fun _=>hrow)|exact cO ae (cs:=fC s) J J J J J (fun _=>hrow')|exact ax ae J J J J|exact gS ae ie J J J J J J (by kernel_rfl))|refine nx ?_)
   refine aa rfl (by simp) ?_
   repeat' (first|refine vx rfl (bm J J J J J (by omega)) ?_|refine dx ?_)
   refine aY (j+1) [] hj (show l.length - (j+1)<l.length-j by omega) ⟨J,J,J,trivial⟩ rfl
 · skip
   repeat' refine nx ?_
   refine aa rfl (by simp;omega) ?_
   repeat' refine nx ?_
   (refine rt ?_;refine fun w hm=>⟨?_,hm.below⟩)
   rfl
theorem zB{A A':Nat→Prop}(q:io)(x x':Option Addr)(c c':Nat)(w:World)(hR:Rws A w 2 mC x q.metas)(hR':Rws A' w 2 mC x' q.metas)(hlen:q.metas.length≤9000000000000000000):Calls Tryz.prog 94 #[.agg #[.string q.svc,.string q.mth,.int .i64 q.late,.slice x q.metas.length c],.agg #[.string q.svc,.string q.mth,.int .i64 q.late,.slice x' q.metas.length c']] w fun e w'=>e= .returned (.bool true)∧Below w.heap.size w w':=by
 refine ai Tryz.func94 rfl Tryz.ntmps94 J J ?_
 refine aD ?_
 refine ap ?_
 (refine bx ?_;intro g2)
 (refine bx ?_;intro g3)
 repeat' refine nx ?_
 refine aa rfl (by simp) ?_
 repeat' refine nx ?_
 refine bT (σ:=Nat) (fun p=>p≤q.metas.length) (fun p=>[(5,[],.int .i64 ((p:Nat):Int)),(2,[],.pointer (some ⟨g2,0,none⟩)),(3,[],.pointer (some ⟨g3,0,none⟩))]) (fun _=>[.cl g3 36 [.string q.svc,.string q.mth,.int .i64 q.late,.slice x' q.metas.length c'],.cl g2 36 [.string q.svc,.string q.mth,.int .i64 q.late,.slice x q.metas.length c]]) (fun p=>q.metas.length-p) 0 [true,true] (Nat.zero_le _) ⟨J,J,J,trivial⟩ rfl ?_
 intro j hj0
 by_cases hj:j<q.metas.length
 · skip
   obtain⟨s,hs⟩:∃s,q.metas[j]? =some s:=⟨q.metas[j],List.getElem?_eq_getElem hj⟩
   obtain⟨bb,off,hx,_,_,hrows⟩:=hR (by omega)
   obtain⟨bb',off',hx',_,_,hrows'⟩:=hR' (by omega)
   have hrow:w.rangeAt bb (off+j * 2) (mC s):=hrows j s hs
   have hrow':w.rangeAt bb' (off'+j * 2) (mC s):=hrows' j s hs
   repeat' refine nx ?_
   refine af rfl (by simp;omega) ?_
   repeat' (first|refine aF ak rfl (by kernel_rfl) ?_|refine bD ?_|((refine' cB rfl ?_ J J J ?_);rotate_left;first|exact dF ae (m:=2) j rfl hx J J J J J J J (fun _=>rfl) (fun _=>hj)|exact dF ae (m:=2) j rfl hx' J J J J J J J (fun _=>rfl) (fun _=>hj)|exact cO ae (cs:=mC s) J J J J J (fun _=>hrow)|exact cO ae (cs:=mC s) J J J J J (fun _=>hrow')|exact ax ae J J J J|exact ab ae 0 J J J J J|exact ab ae 1 J J J J J|exact gS ae ie J J J J J J (by kernel_rfl))|refine nx ?_)
   refine aa rfl (by simp) ?_
   repeat' (first|refine vx rfl (bm J J J J J (by omega)) ?_|refine dx ?_)
   refine aY (j+1) [true,true] hj (show q.metas.length - (j+1)<q.metas.length-j by omega) ⟨J,J,J,trivial⟩ rfl
 · skip
   repeat' refine nx ?_
   refine aa rfl (by simp;omega) ?_
   repeat' refine nx ?_
   (refine rt ?_;refine fun w hm=>⟨?_,hm.below⟩)
   rfl
theorem zC{A A':Nat→Prop}(u u':KV)(he:u'.k=u.k)(w:World)(hK:KOk A w u)(hK':KOk A' w u')(hs:Hi u.k):Calls Tryz.prog 41 #[.agg ⟨KC u⟩,.agg #[.int .i64 u.k.st.id,.int .i64 u.k.st.side,.int .i64 u.k.st.shape,.int .i64 u.k.st.sent,.int .i64 u.k.st.got,.bool u.k.st.se,.bool u.k.st.ge,.bool u.k.st.done,.int .i64 u.k.st.code,.string u.k.st.text,.int .i64 u.k.st.snd.size,.int .i64 u.k.st.snd.left,.int .i64 u.k.st.snd.held,.int .i64 u.k.st.rcv.size,.int .i64 u.k.st.rcv.left,.int .i64 u.k.st.rcv.held,.string u.k.sv,.string u.k.mt,.int .i64 u.k.lt,.slice u'.m u.k.ms.length u'.mc,.slice u'.i u.k.ib.length u'.ic,.slice u'.o u.k.ob.length u'.oc]] w fun e w'=>e= .returned (.bool true)∧Below w.heap.size w w':=by
 refine ai Tryz.func41 rfl Tryz.ntmps41 J J ?_
 obtain⟨hM,hI,hO⟩:=hK
 obtain⟨hM',hI',hO'⟩:=hK'
 rw[he]at hM' hI' hO'
 obtain⟨hs1,hs2,hs3⟩:=hs
 refine aD ?_
 refine ap ?_
 (refine bx ?_;intro g2)
 (refine bx ?_;intro g3)
 repeat' (first|refine cl (fun w hm=>zB u.k.hd u.m u'.m u.mc u'.mc w (hM.below hm.below) (hM'.below hm.below) (by show u.k.ms.length≤_;omega)) ?_|refine nx ?_)
 refine aa rfl (by simp) ?_
 repeat' refine nx ?_
 refine bT (σ:=Nat) (fun p=>p≤u.k.ib.length) (fun p=>[(5,[],.int .i64 ((p:Nat):Int)),(2,[],.pointer (some ⟨g2,0,none⟩)),(3,[],.pointer (some ⟨g3,0,none⟩))]) (fun _=>[.cl g3 39 [.int .i64 u.k.st.id,.int .i64 u.k.st.side,.int .i64 u.k.st.shape,.int .i64 u.k.st.sent,.int .i64 u.k.st.got,.bool u.k.st.se,.bool u.k.st.ge,.bool u.k.st.done,.int .i64 u.k.st.code,.string u.k.st.text,.int .i64 u.k.st.snd.size,.int .i64 u.k.st.snd.left,.int .i64 u.k.st.snd.held,.int .i64 u.k.st.rcv.size,.int .i64 u.k.st.rcv.left,.int .i64 u.k.st.rcv.held,.string u.k.sv,.string u.k.mt,.int .i64 u.k.lt,.slice u'.m u.k.ms.length u'.mc,.slice u'.i u.k.ib.length u'.ic,.slice u'.o u.k.ob.length u'.oc],.cl g2 39 [.int .i64 u.k.st.id,.int .i64 u.k.st.side,.int .i64 u.k.st.shape,.int .i64 u.k.st.sent,.int .i64 u.k.st.got,.bool u.k.st.se,.bool u.k.st.ge,.bool u.k.st.done,.int .i64 u.k.st.code,.string u.k.st.text,.int .i64 u.k.st.snd.size,.int .i64 u.k.st.snd.left,.int .i64 u.k.st.snd.held,.int .i64 u.k.st.rcv.size,.int .i64 u.k.st.rcv.left,.int .i64 u.k.st.rcv.held,.string u.k.sv,.string u.k.mt,.int .i64 u.k.lt,.slice u.m u.k.ms.length u.mc,.slice u.i u.k.ib.length u.ic,.slice u.o u.k.ob.length u.oc]]) (fun p=>u.k.ib.length-p) 0 [true,true] (Nat.zero_le _) ⟨J,J,J,trivial⟩ rfl ?_
 intro j hj0
 by_cases hj:j<u.k.ib.length
 · skip
   obtain⟨s,hs⟩:∃s,u.k.ib[j]? =some s:=⟨u.k.ib[j],List.getElem?_eq_getElem hj⟩
   obtain⟨bb,off,hx,_,_,hrows⟩:=hI (by omega)
   obtain⟨bb',off',hx',_,_,hrows'⟩:=hI' (by omega)
   have hrow:w.rangeAt bb (off+j * 1) (sC s):=hrows j s hs
   have hrow':w.rangeAt bb' (off'+j * 1) (sC s):=hrows' j s hs
   repeat' refine nx ?_
   refine af rfl (by simp;omega) ?_
   repeat' (first|refine aF ak rfl (by kernel_rfl) ?_|refine bD ?_|((refine' cB rfl ?_ J J J ?_);rotate_left;first|exact dF ae (m:=1) j rfl hx J J J J J J J (fun _=>rfl) (fun _=>hj)|exact dF ae (m:=1) j rfl hx' J J J J J J J (fun _=>rfl) (fun _=>hj)|exact dd ae (v:= .string s) J J J J J (fun _=>hrow 0 _ rfl)|exact dd ae (v:= .string s) J J J J J (fun _=>hrow' 0 _ rfl)|exact ax ae J J J J|exact aM ae J J J J J J|exact ab ae 0 J J J J J|exact ab ae 1 J J J J J)|refine nx ?_)
   refine aa rfl (by simp) ?_
   repeat' (first|refine vx rfl (bm J J J J J (by omega)) ?_|refine dx ?_)
   refine aY (j+1) [true,true] hj (show u.k.ib.length - (j+1)<u.k.ib.length-j by omega) ⟨J,J,J,trivial⟩ rfl
 · skip
   repeat' refine nx ?_
   refine aa rfl (by simp;omega) ?_
   repeat' (first|refine cl (fun w hm=>oA u.o u'.o u.oc u'.oc u.k.ob w (hO.below hm.below) (hO'.below hm.below) (by omega)) ?_|refine nx ?_)
   (refine rt ?_;refine fun w hm=>⟨?_,hm.below⟩)
   rfl
end
section
open Go.RowKit
attribute [local irreducible] Calls
theorem sV{A A':Nat→Prop}(v v':NV)(he:v'.c=v.c)(w:World)(hN:NOk A w v)(hN':NOk A' w v')(hz:rk v):Calls Tryz.prog 12 #[.agg #[.int .i64 v.c.sd,.int .i64 v.c.nx,.int .i64 v.c.la,.int .i64 v.c.aw,.int .i64 v.c.sz,.int .i64 v.c.sw.size,.int .i64 v.c.sw.left,.int .i64 v.c.sw.held,.int .i64 v.c.rw.size,.int .i64 v.c.rw.left,.int .i64 v.c.rw.held,.slice v.x v.kv.length v.xc,.slice v.o v.c.ou.length v.oc,.slice v.p v.c.pg.length v.pc,.bool v.c.cl],.agg #[.int .i64 v.c.sd,.int .i64 v.c.nx,.int .i64 v.c.la,.int .i64 v.c.aw,.int .i64 v.c.sz,.int .i64 v.c.sw.size,.int .i64 v.c.sw.left,.int .i64 v.c.sw.held,.int .i64 v.c.rw.size,.int .i64 v.c.rw.left,.int .i64 v.c.rw.held,.slice v'.x v.kv.length v'.xc,.slice v'.o v.c.ou.length v'.oc,.slice v'.p v.c.pg.length v'.pc,.bool v.c.cl]] w fun e w'=>e= .returned (.bool true)∧Below w.heap.size w w':=by
 refine ai Tryz.func12 rfl Tryz.ntmps12 J J ?_
 have hzk:=hz.ks
 have hzo:=hz.ou
 have hzp:=hz.pg
 have hp':=hN'.pg
 have ho':=hN'.ou
 have hq':=hN'.eq
 rw[he]at hp' ho' hq'
 have hkm:v'.kv.map (·.k)=v.kv.map (·.k):=by rw[←hq',←hN.eq]
 refine aD ?_
 refine ap ?_
 (refine bx ?_;intro g2)
 (refine bx ?_;intro g3)
 repeat' refine nx ?_
 refine aa rfl (by simp) ?_
 repeat' (first|refine cl (fun w hm=>oA v.o v'.o v.oc v'.oc v.c.ou w (hN.ou.below hm.below) (ho'.below hm.below) (by omega)) ?_|refine nx ?_)
 refine aa rfl (by simp) ?_
 repeat' refine nx ?_
 refine bT (σ:=Nat) (fun p=>p≤v.kv.length) (fun p=>[(5,[],.int .i64 ((p:Nat):Int)),(2,[],.pointer (some ⟨g2,0,none⟩)),(3,[],.pointer (some ⟨g3,0,none⟩))]) (fun _=>[.cl g3 28 [.int .i64 v.c.sd,.int .i64 v.c.nx,.int .i64 v.c.la,.int .i64 v.c.aw,.int .i64 v.c.sz,.int .i64 v.c.sw.size,.int .i64 v.c.sw.left,.int .i64 v.c.sw.held,.int .i64 v.c.rw.size,.int .i64 v.c.rw.left,.int .i64 v.c.rw.held,.slice v'.x v.kv.length v'.xc,.slice v'.o v.c.ou.length v'.oc,.slice v'.p v.c.pg.length v'.pc,.bool v.c.cl],.cl g2 28 [.int .i64 v.c.sd,.int .i64 v.c.nx,.int .i64 v.c.la,.int .i64 v.c.aw,.int .i64 v.c.sz,.int .i64 v.c.sw.size,.int .i64 v.c.sw.left,.int .i64 v.c.sw.held,.int .i64 v.c.rw.size,.int .i64 v.c.rw.left,.int .i64 v.c.rw.held,.slice v.x v.kv.length v.xc,.slice v.o v.c.ou.length v.oc,.slice v.p v.c.pg.length v.pc,.bool v.c.cl]]) (fun p=>v.kv.length-p) 0 [true,true] (Nat.zero_le _) ⟨J,J,J,trivial⟩ rfl ?_
 intro j hj0
 by_cases hj:j<v.kv.length
 · obtain⟨u,hu⟩:∃u,v.kv[j]? =some u:=⟨_,List.getElem?_eq_getElem hj⟩
   obtain⟨u',hu',huk⟩:=mr hkm hu
   have hum:=List.mem_of_getElem? hu
   have hum':=List.mem_of_getElem? hu'
   obtain⟨bb,off,hx,_,_,hrows⟩:=hN.ks (by omega)
   obtain⟨bb',off',hx',_,_,hrows'⟩:=hN'.ks (by rw[gN hkm];omega)
   have hrow:w.rangeAt bb (off+j * 22) (KC u):=hrows j u hu
   have hrow':w.rangeAt bb' (off'+j * 22) [.int .i64 u.k.st.id,.int .i64 u.k.st.side,.int .i64 u.k.st.shape,.int .i64 u.k.st.sent,.int .i64 u.k.st.got,.bool u.k.st.se,.bool u.k.st.ge,.bool u.k.st.done,.int .i64 u.k.st.code,.string u.k.st.text,.int .i64 u.k.st.snd.size,.int .i64 u.k.st.snd.left,.int .i64 u.k.st.snd.held,.int .i64 u.k.st.rcv.size,.int .i64 u.k.st.rcv.left,.int .i64 u.k.st.rcv.held,.string u.k.sv,.string u.k.mt,.int .i64 u.k.lt,.slice u'.m u.k.ms.length u'.mc,.slice u'.i u.k.ib.length u'.ic,.slice u'.o u.k.ob.length u'.oc]:=by
    have h9:=hrows' j u' hu'
    unfold KC at h9
    rw[huk]at h9
    exact h9
   repeat' refine nx ?_
   refine af rfl (by simp;omega) ?_
   repeat' (first|refine aF ak rfl (by kernel_rfl) ?_|refine bD ?_|((refine' cB rfl ?_ J J J ?_);rotate_left;first|exact dF ae (m:=22) j rfl hx J J J J J J J (fun _=>rfl) (fun _=>hj)|exact dF ae (m:=22) j rfl hx' J J J J J J J (fun _=>rfl) (fun _=>hj)|exact cO ae (cs:=KC u) J J J J J (fun _=>hrow)|exact cO ae J J J J J (fun _=>hrow')|exact ax ae J J J J|exact ab ae 0 J J J J J|exact ab ae 1 J J J J J)|refine aU rfl (ag J J J J ⟨J,J,trivial⟩ rfl (by kernel_rfl)) rfl (fun w hm=>zC u u' huk w ((hN.ok u hum).below hm.below) ((hN'.ok u' hum').below hm.below) (hz.ok u hum)) J J ?_|refine nx ?_)
   refine aa rfl (by simp) ?_
   repeat' (first|refine vx rfl (bm J J J J J (by omega)) ?_|refine dx ?_)
   refine aY (j+1) [true,true] hj (show v.kv.length - (j+1)<v.kv.length-j by omega) ⟨J,J,J,trivial⟩ rfl
 repeat' refine nx ?_
 refine aa rfl (by simp;omega) ?_
 repeat' refine nx ?_
 refine bT (σ:=Nat) (fun p=>p≤v.c.pg.length) (fun p=>[(6,[],.int .i64 ((p:Nat):Int)),(2,[],.pointer (some ⟨g2,0,none⟩)),(3,[],.pointer (some ⟨g3,0,none⟩))]) (fun _=>[.cl g3 28 [.int .i64 v.c.sd,.int .i64 v.c.nx,.int .i64 v.c.la,.int .i64 v.c.aw,.int .i64 v.c.sz,.int .i64 v.c.sw.size,.int .i64 v.c.sw.left,.int .i64 v.c.sw.held,.int .i64 v.c.rw.size,.int .i64 v.c.rw.left,.int .i64 v.c.rw.held,.slice v'.x v.kv.length v'.xc,.slice v'.o v.c.ou.length v'.oc,.slice v'.p v.c.pg.length v'.pc,.bool v.c.cl],.cl g2 28 [.int .i64 v.c.sd,.int .i64 v.c.nx,.int .i64 v.c.la,.int .i64 v.c.aw,.int .i64 v.c.sz,.int .i64 v.c.sw.size,.int .i64 v.c.sw.left,.int .i64 v.c.sw.held,.int .i64 v.c.rw.size,.int .i64 v.c.rw.left,.int .i64 v.c.rw.held,.slice v.x v.kv.length v.xc,.slice v.o v.c.ou.length v.oc,.slice v.p v.c.pg.length v.pc,.bool v.c.cl]]) (fun p=>v.c.pg.length-p) 0 [true,true] (Nat.zero_le _) ⟨J,J,J,trivial⟩ rfl ?_
 clear hj hj0
 intro j hj0
 by_cases hj:j<v.c.pg.length
 · obtain⟨n,hs⟩:∃n,v.c.pg[j]? =some n:=⟨_,List.getElem?_eq_getElem hj⟩
   obtain⟨bb,off,hx,_,_,hrows⟩:=hN.pg (by omega)
   obtain⟨bb',off',hx',_,_,hrows'⟩:=hp' (by omega)
   have hrow:w.rangeAt bb (off+j * 1) (iC n):=hrows j n hs
   have hrow':w.rangeAt bb' (off'+j * 1) (iC n):=hrows' j n hs
   repeat' refine nx ?_
   refine af rfl (by simp;omega) ?_
   repeat' (first|refine aF ak rfl (by kernel_rfl) ?_|refine bD ?_|((refine' cB rfl ?_ J J J ?_);rotate_left;first|exact dF ae (m:=1) j rfl hx J J J J J J J (fun _=>rfl) (fun _=>hj)|exact dF ae (m:=1) j rfl hx' J J J J J J J (fun _=>rfl) (fun _=>hj)|exact dd ae (v:= .int .i64 n) J J J J J (fun _=>hrow 0 _ rfl)|exact dd ae (v:= .int .i64 n) J J J J J (fun _=>hrow' 0 _ rfl)|exact ax ae J J J J|exact aM ae J J J J J J|exact ab ae 0 J J J J J|exact ab ae 1 J J J J J)|refine nx ?_)
   refine aa rfl (by simp) ?_
   repeat' (first|refine vx rfl (bm J J J J J (by omega)) ?_|refine dx ?_)
   refine aY (j+1) [true,true] hj (show v.c.pg.length - (j+1)<v.c.pg.length-j by omega) ⟨J,J,J,trivial⟩ rfl
 repeat' refine nx ?_
 refine aa rfl (by simp;omega) ?_
 repeat' refine nx ?_
 (refine rt ?_;refine fun w hm=>⟨?_,hm.below⟩)
 rfl
theorem qE{A:Nat→Prop}(v:NV)(id:Int)(o:Option Nat)(w:World)(hN:NOk A w v)(hzk:v.kv.length≤606626243774)(h:bX id v.c.ks 0=o):Calls Tryz.prog 39 #[.agg #[.int .i64 v.c.sd,.int .i64 v.c.nx,.int .i64 v.c.la,.int .i64 v.c.aw,.int .i64 v.c.sz,.int .i64 v.c.sw.size,.int .i64 v.c.sw.left,.int .i64 v.c.sw.held,.int .i64 v.c.rw.size,.int .i64 v.c.rw.left,.int .i64 v.c.rw.held,.slice v.x v.kv.length v.xc,.slice v.o v.c.ou.length v.oc,.slice v.p v.c.pg.length v.pc,.bool v.c.cl],.int .i64 id] w fun e w'=>e= .returned (.int .i64 (DH o))∧Below w.heap.size w w':=by subst h;exact BL v id w hN hzk
end
end Go.Proofs.YthiocbcokfondaaGreatDoor.Y
