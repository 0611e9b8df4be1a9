import Derived.Test.YthiocbcokfondaaGreatDoorJBunT
import Derived.Test.YthiocbcokfondaaGreatDoorJBunE
import Derived.Test.YthiocbcokfondaaGreatDoorJStr3Y
set_option maxRecDepth 100000
set_option maxHeartbeats 32000000
namespace Go.Proofs.YthiocbcokfondaaGreatDoor.Y
section
open Go.RowKit
attribute [local irreducible] Calls
def DH:Option Nat→Int
 |some k=>k
 |none=> -1
theorem sH:∀ (l:List ByteArray) (s:ByteArray),aT (l++[s])=aT l+aG s
 | [],s=>by simp[aT]
 |a::l,s=>by rw[List.cons_append,aT,sH l s,aT];omega
theorem ov(s:ByteArray):1≤aG s:=by unfold aG;split<;>omega
theorem jf:∀l:List ByteArray,0≤aT l
 | []=>Int.le_refl _
 |a::l=>by have:=jf l;have:=ov a;rw[aT];omega
theorem sI{l:List ByteArray}{j:Nat}{s:ByteArray}(h:l[j]? =some s):aT (l.take (j+1))=aT (l.take j)+aG s:=by rw[jH h,sH]
theorem tO:∀ (l:List ByteArray) (j:Nat),aT (l.take j)≤aT l
 | [],j=>by simp
 |a::l,0=>by have:=jf (a::l);simpa[aT]using this
 |a::l,j+1=>by have:=tO l j;rw[List.take_succ_cons,aT,aT];omega
theorem sJ:∀ (l:List KR) (k:KR),ba (l++[k])=ba l+aT k.ib
 | [],s=>by simp[ba]
 |a::l,s=>by rw[List.cons_append,ba,sJ l s,ba];omega
theorem nc:∀l:List KR,0≤ba l
 | []=>Int.le_refl _
 |a::l=>by have:=nc l;have:=jf a.ib;rw[ba];omega
theorem sK{l:List KR}{j:Nat}{s:KR}(h:l[j]? =some s):ba (l.take (j+1))=ba (l.take j)+aT s.ib:=by rw[jH h,sJ]
theorem tP:∀ (l:List KR) (j:Nat),ba (l.take j)≤ba l
 | [],j=>by simp
 |a::l,0=>by have:=nc (a::l);simpa[ba]using this
 |a::l,j+1=>by have:=tP l j;rw[List.take_succ_cons,ba,ba];omega
theorem gA{l:List KR}{k:KR}(h:k∈l):aT k.ib≤ba l:=by
 induction l with
 |nil=>cases h
 |cons a l ih=>
  have h0:=nc l
  have h1:=jf a.ib
  rw[ba]
  rcases List.mem_cons.1 h with rfl|h
  · omega
  · have:=ih h
    omega
theorem zj{l:List KR}{j:Nat}{s:KR}(h:l[j]? =some s):cP (l.take (j+1))=cP (l.take j)+if s.st.done=true then 0 else 1:=by
 unfold cP
 rw[jH h,List.countP_append]
 cases hd:s.st.done<;>simp[hd]
theorem DI(l:List KR)(j:Nat):cP (l.take j)≤l.length:=Nat.le_trans List.countP_le_length (by rw[List.length_take];omega)
theorem BI{w0 w:World}{M:List Ent}{g:Nat}{T:TypeId}{v:Value}{r:List Value}(i:Nat)(hM:Mem w0 w M)(h:ez M i=some (.cl g T (v::r))):w.cell? ⟨g,0,none⟩=some v:=by
 have hb:Bk w g T ⟨v::r⟩:=(hM.2.get (i:=i) h).2
 exact hb.at_ 0 rfl
theorem BJ(u:KV)(id:Int)(g:Nat)(w:World)(hc:w.cell? ⟨g,0,none⟩=some (.int .i64 id)):Calls Tryz.prog 89 #[.agg ⟨KC u⟩,.pointer (some ⟨g,0,none⟩)] w fun e w'=>e= .returned (.bool (u.k.st.id==id))∧Below w.heap.size w w':=by
 refine ai Tryz.func89 rfl Tryz.ntmps89 J J ?_
 repeat' (first|refine vx rfl (dd ae J J J J J (fun _=>hc)) ?_|(refine bx ?_;intro g)|refine nx ?_)
 (refine rt ?_;refine fun w hm=>⟨?_,hm.below⟩)
 rfl
theorem BK{A:Nat→Prop}(v:NV)(id:Int)(g:Nat)(w:World)(hc:w.cell? ⟨g,0,none⟩=some (.int .i64 id))(hN:NOk A w v)(hzk:v.kv.length≤606626243774):Calls Tryz.prog 88 #[.slice v.x v.kv.length v.xc,.func (.func 89) #[] #[.pointer (some ⟨g,0,none⟩)]] w fun e w'=>e= .returned (.int .i64 (DH (bX id v.c.ks 0)))∧Below w.heap.size w w':=by
 refine ai Tryz.func88 rfl Tryz.ntmps88 J J ?_
 have hl:=hN.lenk
 repeat' refine nx ?_
 refine bT (σ:=Nat) (fun p=>p≤v.kv.length∧bX id v.c.ks 0=bX id (v.c.ks.drop p) p) (fun p=>[(8,[],.int .i64 ((p:Nat):Int)),(7,[],.int .i64 ((v.kv.length:Nat):Int)),(0,[],.slice v.x v.kv.length v.xc),(1,[],.func (.func 89) #[] #[.pointer (some ⟨g,0,none⟩)])]) (fun _=>[]) (fun p=>v.kv.length-p) 0 [] ⟨Nat.zero_le _,rfl⟩ ⟨J,J,J,J,trivial⟩ rfl ?_
 rintro j ⟨hj0,hr⟩
 by_cases hj:j<v.kv.length
 · skip
   obtain⟨u,hu0⟩:∃u,v.kv[j]? =some u:=⟨v.kv[j],List.getElem?_eq_getElem hj⟩
   obtain⟨bb,off,hx,_,_,hrows⟩:=hN.ks (by omega)
   have hrow:w.rangeAt bb (off+j * 22) (KC u):=hrows j u hu0
   have hq:v.c.ks[j]? =some u.k:=by rw[hN.eq,List.getElem?_map,hu0];rfl
   rw[eQ hq,bX]at hr
   rw[hx]
   repeat' refine nx ?_
   refine af rfl (by simp;omega) ?_
   repeat' (first|refine vx rfl (ia (m:=22) j hj) ?_|refine vx rfl (rj (cs:=KC u) hrow) ?_|refine cl (fun w hm=>BJ u id g w ((hm.below.cell (block_lt_of_cell hc)).trans hc)) ?_|refine nx ?_)
   by_cases hh:u.k.st.id=id
   · rw[if_pos hh]at hr
     refine af rfl (by simpa using hh) ?_
     repeat' refine nx ?_
     (refine rt ?_;refine fun w hm=>⟨?_,hm.below⟩)
     rw[hr];rfl
   · rw[if_neg hh]at hr
     refine aa rfl (by simpa using hh) ?_
     repeat' (first|refine vx rfl (bm J J J J J (by omega)) ?_|refine dx ?_)
     refine aY (j+1) [] ⟨hj,hr⟩ (show v.kv.length - (j+1)<v.kv.length-j by omega) ⟨J,J,J,J,trivial⟩ rfl
 · rw[List.drop_eq_nil_of_le (by omega)]at hr
   repeat' refine nx ?_
   refine aa rfl (by simp;omega) ?_
   repeat' refine nx ?_
   (refine rt ?_;refine fun w hm=>⟨?_,hm.below⟩)
   rw[hr];rfl
theorem DJ{A:Nat→Prop}(v:NV)(id:Int)(w:World)(hN:NOk A w v)(hzk:v.kv.length≤606626243774):Calls Tryz.prog 37 #[.agg ⟨NC v⟩,.int .i64 id] w fun e w'=>e= .returned (.int .i64 (DH (bX id v.c.ks 0)))∧Below w.heap.size w w':=by
 refine ai Tryz.func37 rfl Tryz.ntmps37 J J ?_
 repeat' (first|refine vx rfl (wG J J trivial rfl ⟨J,trivial⟩) ?_|(refine bx ?_;intro g1)|refine cl (fun w hm=>BK v id _ w (BI 0 hm rfl) (hN.below hm.below) hzk) ?_|refine nx ?_)
 (refine rt ?_;refine fun w hm=>⟨?_,hm.below⟩)
 rfl
theorem BL{A:Nat→Prop}(v:NV)(id:Int)(w:World)(hN:NOk A w v)(hzk:v.kv.length≤606626243774):Calls Tryz.prog 39 #[.agg ⟨NC v⟩,.int .i64 id] w fun e w'=>e= .returned (.int .i64 (DH (bX id v.c.ks 0)))∧Below w.heap.size w w':=by
 refine ai Tryz.func39 rfl Tryz.ntmps39 J J ?_
 have hl:=hN.lenk
 repeat' (first|(refine bx ?_;intro g2)|refine nx ?_)
 refine bT (σ:=Nat) (fun p=>p≤v.kv.length∧bX id v.c.ks 0=bX id (v.c.ks.drop p) p) (fun p=>[(5,[],.int .i64 ((p:Nat):Int)),(2,[],.pointer (some ⟨g2,0,none⟩)),(1,[],.int .i64 id)]) (fun _=>[.cl g2 28 [.int .i64 v.c.sd,.int .i64 v.c.nx,.int .i64 v.c.la,.int .i64 v.c.aw,.int .i64 v.c.sz,.int .i64 v.c.sw.size,.int .i64 v.c.sw.left,.int .i64 v.c.sw.held,.int .i64 v.c.rw.size,.int .i64 v.c.rw.left,.int .i64 v.c.rw.held,.slice v.x v.kv.length v.xc,.slice v.o v.c.ou.length v.oc,.slice v.p v.c.pg.length v.pc,.bool v.c.cl]]) (fun p=>v.kv.length-p) 0 [true] ⟨Nat.zero_le _,rfl⟩ ⟨J,J,J,trivial⟩ rfl ?_
 rintro j ⟨hj0,hr⟩
 by_cases hj:j<v.kv.length
 · skip
   obtain⟨u,hu0⟩:∃u,v.kv[j]? =some u:=⟨v.kv[j],List.getElem?_eq_getElem hj⟩
   obtain⟨bb,off,hx,_,_,hrows⟩:=hN.ks (by omega)
   have hrow:w.rangeAt bb (off+j * 22) (KC u):=hrows j u hu0
   have hq:v.c.ks[j]? =some u.k:=by rw[hN.eq,List.getElem?_map,hu0];rfl
   rw[eQ hq,bX]at hr
   try unfold NC
   rw[hx]
   repeat' refine nx ?_
   refine af rfl (by simp;omega) ?_
   repeat' (first|refine vx rfl (ia (m:=22) j hj) ?_|refine vx rfl (dd ae (v:= .int .i64 u.k.st.id) J J J J J (fun _=>hrow 0 _ rfl)) ?_|refine nx ?_)
   by_cases hh:u.k.st.id=id
   · rw[if_pos hh]at hr
     refine af rfl (by simpa using hh) ?_
     repeat' refine nx ?_
     (refine rt ?_;refine fun w hm=>⟨?_,hm.below⟩)
     rw[hr];rfl
   · rw[if_neg hh]at hr
     refine aa rfl (by simpa using hh) ?_
     repeat' (first|refine vx rfl (bm J J J J J (by omega)) ?_|refine dx ?_)
     refine aY (j+1) [true] ⟨hj,hr⟩ (show v.kv.length - (j+1)<v.kv.length-j by omega) ⟨J,J,J,trivial⟩ rfl
 · rw[List.drop_eq_nil_of_le (by omega)]at hr
   repeat' refine nx ?_
   refine aa rfl (by simp;omega) ?_
   repeat' refine nx ?_
   (refine rt ?_;refine fun w hm=>⟨?_,hm.below⟩)
   rw[hr];rfl
theorem qu{A:Nat→Prop}(v:KV)(w:World)(hI:Rws A w 1 sC v.i v.k.ib)(hub:aT v.k.ib≤4611686018427387904)(hzi:v.k.ib.length≤8796093022208):Calls Tryz.prog 78 #[.agg ⟨KC v⟩] w fun e w'=>e= .returned (.int .i64 (aT v.k.ib))∧Below w.heap.size w w':=by
 refine ai Tryz.func78 rfl Tryz.ntmps78 J J ?_
 repeat' (first|(refine bx ?_;intro g1)|refine nx ?_)
 refine bT (σ:=Nat) (fun p=>p≤v.k.ib.length) (fun p=>[(9,[],.int .i64 ((p:Nat):Int)),(8,[],.int .i64 ((v.k.ib.length:Nat):Int)),(7,[],.slice v.i v.k.ib.length v.ic),(3,[],.int .i64 (aT (v.k.ib.take p)))]) (fun _=>[.cl g1 39 [.int .i64 v.k.st.id,.int .i64 v.k.st.side,.int .i64 v.k.st.shape,.int .i64 v.k.st.sent,.int .i64 v.k.st.got,.bool v.k.st.se,.bool v.k.st.ge,.bool v.k.st.done,.int .i64 v.k.st.code,.string v.k.st.text,.int .i64 v.k.st.snd.size,.int .i64 v.k.st.snd.left,.int .i64 v.k.st.snd.held,.int .i64 v.k.st.rcv.size,.int .i64 v.k.st.rcv.left,.int .i64 v.k.st.rcv.held,.string v.k.sv,.string v.k.mt,.int .i64 v.k.lt,.slice v.m v.k.ms.length v.mc,.slice v.i v.k.ib.length v.ic,.slice v.o v.k.ob.length v.oc]]) (fun p=>v.k.ib.length-p) 0 [true] (Nat.zero_le _) ⟨J,J,J,J,trivial⟩ rfl ?_
 intro j hj0
 by_cases hj:j<v.k.ib.length
 · skip
   obtain⟨s,hs⟩:∃s,v.k.ib[j]? =some s:=⟨v.k.ib[j],List.getElem?_eq_getElem hj⟩
   obtain⟨bb,off,hx,_,_,hrows⟩:=hI (by omega)
   have hrow:w.rangeAt bb (off+j * 1) (sC s):=hrows j s hs
   have hun:=sI hs
   have hue:=tO v.k.ib (j+1)
   have hu1:=jf (v.k.ib.take j)
   have hco:=ov s
   rw[hx]
   repeat' refine nx ?_
   refine af rfl (by simp;omega) ?_
   repeat' (first|refine vx rfl (ia (m:=1) j hj) ?_|refine vx rfl (dd ae (v:= .string s) J J J J J (fun _=>hrow 0 _ rfl)) ?_|refine vx rfl (bm J J J J J (by omega)) ?_|refine cl (fun w hm=>iO s w) ?_|refine nx ?_)
   rw[←hun]
   refine aY (j+1) [true] hj (show v.k.ib.length - (j+1)<v.k.ib.length-j by omega) ⟨J,J,J,J,trivial⟩ rfl
 · have hjl:j=v.k.ib.length:=by omega
   subst hjl
   repeat' refine nx ?_
   refine aa rfl (by simp) ?_
   repeat' refine nx ?_
   (refine rt ?_;refine fun w hm=>⟨?_,hm.below⟩)
   rw[List.take_length]
theorem sL{A:Nat→Prop}(v:KV)(w:World)(hI:Rws A w 1 sC v.i v.k.ib)(hub:aT v.k.ib≤4611686018427387904)(hzi:v.k.ib.length≤8796093022208):Calls Tryz.prog 82 #[.agg ⟨KC v⟩] w fun e w'=>e= .returned (.int .i64 (aT v.k.ib))∧Below w.heap.size w w':=by
 refine ai Tryz.func82 rfl Tryz.ntmps82 J J ?_
 repeat' (first|(refine bx ?_;intro g1)|refine nx ?_)
 refine bT (σ:=Nat) (fun p=>p≤v.k.ib.length) (fun p=>[(4,[],.int .i64 ((p:Nat):Int)),(1,[],.pointer (some ⟨g1,0,none⟩)),(3,[],.int .i64 (aT (v.k.ib.take p)))]) (fun _=>[.cl g1 39 [.int .i64 v.k.st.id,.int .i64 v.k.st.side,.int .i64 v.k.st.shape,.int .i64 v.k.st.sent,.int .i64 v.k.st.got,.bool v.k.st.se,.bool v.k.st.ge,.bool v.k.st.done,.int .i64 v.k.st.code,.string v.k.st.text,.int .i64 v.k.st.snd.size,.int .i64 v.k.st.snd.left,.int .i64 v.k.st.snd.held,.int .i64 v.k.st.rcv.size,.int .i64 v.k.st.rcv.left,.int .i64 v.k.st.rcv.held,.string v.k.sv,.string v.k.mt,.int .i64 v.k.lt,.slice v.m v.k.ms.length v.mc,.slice v.i v.k.ib.length v.ic,.slice v.o v.k.ob.length v.oc]]) (fun p=>v.k.ib.length-p) 0 [true] (Nat.zero_le _) ⟨J,J,J,trivial⟩ rfl ?_
 intro j hj0
 by_cases hj:j<v.k.ib.length
 · skip
   obtain⟨s,hs⟩:∃s,v.k.ib[j]? =some s:=⟨v.k.ib[j],List.getElem?_eq_getElem hj⟩
   obtain⟨bb,off,hx,_,_,hrows⟩:=hI (by omega)
   have hrow:w.rangeAt bb (off+j * 1) (sC s):=hrows j s hs
   have hun:=sI hs
   have hue:=tO v.k.ib (j+1)
   have hu1:=jf (v.k.ib.take j)
   have hco:=ov s
   rw[hx]
   repeat' refine nx ?_
   refine af rfl (by simp;omega) ?_
   repeat' (first|refine vx rfl (ia (m:=1) j hj) ?_|refine vx rfl (dd ae (v:= .string s) J J J J J (fun _=>hrow 0 _ rfl)) ?_|refine vx rfl (bm J J J J J (by omega)) ?_|refine cl (fun w hm=>jN s w) ?_|refine nx ?_)
   rw[←hun]
   refine aY (j+1) [true] hj (show v.k.ib.length - (j+1)<v.k.ib.length-j by omega) ⟨J,J,J,trivial⟩ rfl
 · have hjl:j=v.k.ib.length:=by omega
   subst hjl
   repeat' refine nx ?_
   refine aa rfl (by simp) ?_
   repeat' refine nx ?_
   (refine rt ?_;refine fun w hm=>⟨?_,hm.below⟩)
   rw[List.take_length]
theorem BM{A:Nat→Prop}(v:NV)(w:World)(hN:NOk A w v)(hzk:v.kv.length≤606626243774)(htb:ba v.c.ks≤4611686018427387904)(hzi:∀u∈v.kv,u.k.ib.length≤8796093022208):Calls Tryz.prog 31 #[.agg ⟨NC v⟩] w fun e w'=>e= .returned (.int .i64 (ba v.c.ks))∧Below w.heap.size w w':=by
 refine ai Tryz.func31 rfl Tryz.ntmps31 J J ?_
 have hl:=hN.lenk
 repeat' (first|(refine bx ?_;intro g1)|refine nx ?_)
 refine bT (σ:=Nat) (fun p=>p≤v.kv.length) (fun p=>[(9,[],.int .i64 ((p:Nat):Int)),(8,[],.int .i64 ((v.kv.length:Nat):Int)),(7,[],.slice v.x v.kv.length v.xc),(3,[],.int .i64 (ba (v.c.ks.take p)))]) (fun _=>[.cl g1 28 [.int .i64 v.c.sd,.int .i64 v.c.nx,.int .i64 v.c.la,.int .i64 v.c.aw,.int .i64 v.c.sz,.int .i64 v.c.sw.size,.int .i64 v.c.sw.left,.int .i64 v.c.sw.held,.int .i64 v.c.rw.size,.int .i64 v.c.rw.left,.int .i64 v.c.rw.held,.slice v.x v.kv.length v.xc,.slice v.o v.c.ou.length v.oc,.slice v.p v.c.pg.length v.pc,.bool v.c.cl]]) (fun p=>v.kv.length-p) 0 [true] (Nat.zero_le _) ⟨J,J,J,J,trivial⟩ rfl ?_
 intro j hj0
 by_cases hj:j<v.kv.length
 · skip
   obtain⟨u,hu0⟩:∃u,v.kv[j]? =some u:=⟨v.kv[j],List.getElem?_eq_getElem hj⟩
   obtain⟨bb,off,hx,_,_,hrows⟩:=hN.ks (by omega)
   have hrow:w.rangeAt bb (off+j * 22) (KC u):=hrows j u hu0
   have hq:v.c.ks[j]? =some u.k:=by rw[hN.eq,List.getElem?_map,hu0];rfl
   have hu:=List.mem_of_getElem? hu0
   have hun:=sK hq
   have hue:=tP v.c.ks (j+1)
   have hu1:=nc (v.c.ks.take j)
   have hu2:=jf u.k.ib
   try unfold NC
   rw[hx]
   repeat' refine nx ?_
   refine af rfl (by simp;omega) ?_
   repeat' (first|refine vx rfl (ia (m:=22) j hj) ?_|refine vx rfl (rj (cs:=KC u) hrow) ?_|refine vx rfl (bm J J J J J (by omega)) ?_|(refine al ?_;intro g5)|refine cl (fun w hm=>qu u w ((hN.ok u hu).2.1.below hm.below) (by omega) (hzi u hu)) ?_|refine nx ?_)
   rw[←hun]
   refine aY (j+1) [false,true] hj (show v.kv.length - (j+1)<v.kv.length-j by omega) ⟨J,J,J,J,trivial⟩ rfl
 · have hjl:j=v.kv.length:=by omega
   subst hjl
   repeat' refine nx ?_
   refine aa rfl (by simp) ?_
   repeat' refine nx ?_
   (refine rt ?_;refine fun w hm=>⟨?_,hm.below⟩)
   rw[←hl,List.take_length]
theorem zk{A:Nat→Prop}(v:NV)(w:World)(hN:NOk A w v)(hzk:v.kv.length≤606626243774)(htb:ba v.c.ks≤4611686018427387904)(hzi:∀u∈v.kv,u.k.ib.length≤8796093022208):Calls Tryz.prog 36 #[.agg ⟨NC v⟩] w fun e w'=>e= .returned (.int .i64 (ba v.c.ks))∧Below w.heap.size w w':=by
 refine ai Tryz.func36 rfl Tryz.ntmps36 J J ?_
 have hl:=hN.lenk
 repeat' (first|(refine bx ?_;intro g1)|refine nx ?_)
 refine bT (σ:=Nat) (fun p=>p≤v.kv.length) (fun p=>[(4,[],.int .i64 ((p:Nat):Int)),(1,[],.pointer (some ⟨g1,0,none⟩)),(3,[],.int .i64 (ba (v.c.ks.take p)))]) (fun _=>[.cl g1 28 [.int .i64 v.c.sd,.int .i64 v.c.nx,.int .i64 v.c.la,.int .i64 v.c.aw,.int .i64 v.c.sz,.int .i64 v.c.sw.size,.int .i64 v.c.sw.left,.int .i64 v.c.sw.held,.int .i64 v.c.rw.size,.int .i64 v.c.rw.left,.int .i64 v.c.rw.held,.slice v.x v.kv.length v.xc,.slice v.o v.c.ou.length v.oc,.slice v.p v.c.pg.length v.pc,.bool v.c.cl]]) (fun p=>v.kv.length-p) 0 [true] (Nat.zero_le _) ⟨J,J,J,trivial⟩ rfl ?_
 intro j hj0
 by_cases hj:j<v.kv.length
 · skip
   obtain⟨u,hu0⟩:∃u,v.kv[j]? =some u:=⟨v.kv[j],List.getElem?_eq_getElem hj⟩
   obtain⟨bb,off,hx,_,_,hrows⟩:=hN.ks (by omega)
   have hrow:w.rangeAt bb (off+j * 22) (KC u):=hrows j u hu0
   have hq:v.c.ks[j]? =some u.k:=by rw[hN.eq,List.getElem?_map,hu0];rfl
   have hu:=List.mem_of_getElem? hu0
   have hun:=sK hq
   have hue:=tP v.c.ks (j+1)
   have hu1:=nc (v.c.ks.take j)
   have hu2:=jf u.k.ib
   try unfold NC
   rw[hx]
   repeat' refine nx ?_
   refine af rfl (by simp;omega) ?_
   repeat' (first|refine vx rfl (ia (m:=22) j hj) ?_|refine vx rfl (rj (cs:=KC u) hrow) ?_|refine vx rfl (bm J J J J J (by omega)) ?_|refine cl (fun w hm=>sL u w ((hN.ok u hu).2.1.below hm.below) (by omega) (hzi u hu)) ?_|refine nx ?_)
   rw[←hun]
   refine aY (j+1) [true] hj (show v.kv.length - (j+1)<v.kv.length-j by omega) ⟨J,J,J,trivial⟩ rfl
 · have hjl:j=v.kv.length:=by omega
   subst hjl
   repeat' refine nx ?_
   refine aa rfl (by simp) ?_
   repeat' refine nx ?_
   (refine rt ?_;refine fun w hm=>⟨?_,hm.below⟩)
   rw[←hl,List.take_length]
theorem zl{A:Nat→Prop}(v:NV)(w:World)(hN:NOk A w v)(hzk:v.kv.length≤606626243774):Calls Tryz.prog 35 #[.agg ⟨NC v⟩] w fun e w'=>e= .returned (.int .i64 ((cP v.c.ks:Nat):Int))∧Below w.heap.size w w':=by
 refine ai Tryz.func35 rfl Tryz.ntmps35 J J ?_
 have hl:=hN.lenk
 repeat' (first|(refine bx ?_;intro g1)|refine nx ?_)
 refine bT (σ:=Nat) (fun p=>p≤v.kv.length) (fun p=>[(4,[],.int .i64 ((p:Nat):Int)),(1,[],.pointer (some ⟨g1,0,none⟩)),(3,[],.int .i64 ((cP (v.c.ks.take p):Nat):Int))]) (fun _=>[.cl g1 28 [.int .i64 v.c.sd,.int .i64 v.c.nx,.int .i64 v.c.la,.int .i64 v.c.aw,.int .i64 v.c.sz,.int .i64 v.c.sw.size,.int .i64 v.c.sw.left,.int .i64 v.c.sw.held,.int .i64 v.c.rw.size,.int .i64 v.c.rw.left,.int .i64 v.c.rw.held,.slice v.x v.kv.length v.xc,.slice v.o v.c.ou.length v.oc,.slice v.p v.c.pg.length v.pc,.bool v.c.cl]]) (fun p=>v.kv.length-p) 0 [true] (Nat.zero_le _) ⟨J,J,J,trivial⟩ rfl ?_
 intro j hj0
 by_cases hj:j<v.kv.length
 · skip
   obtain⟨u,hu0⟩:∃u,v.kv[j]? =some u:=⟨v.kv[j],List.getElem?_eq_getElem hj⟩
   obtain⟨bb,off,hx,_,_,hrows⟩:=hN.ks (by omega)
   have hrow:w.rangeAt bb (off+j * 22) (KC u):=hrows j u hu0
   have hq:v.c.ks[j]? =some u.k:=by rw[hN.eq,List.getElem?_map,hu0];rfl
   have hun:=zj hq
   have hue:=DI v.c.ks j
   try unfold NC
   rw[hx]
   repeat' refine nx ?_
   refine af rfl (by simp;omega) ?_
   repeat' (first|refine vx rfl (ia (m:=22) j hj) ?_|refine vx rfl (dd ae (v:= .bool u.k.st.done) J J J J J (fun _=>hrow 7 _ rfl)) ?_|refine nx ?_)
   cases hd:u.k.st.done with
   |true=>
    rw[hd,if_pos rfl]at hun
    refine aa J J ?_
    repeat' (first|refine vx rfl (bm J J J J J (by omega)) ?_|refine dx ?_)
    rw[show cP (v.c.ks.take j)=cP (v.c.ks.take (j+1))by omega]
    refine aY (j+1) [true] hj (show v.kv.length - (j+1)<v.kv.length-j by omega) ⟨J,J,J,trivial⟩ rfl
   |false=>
    rw[hd,if_neg (by simp)]at hun
    refine af J J ?_
    repeat' (first|refine vx rfl (bm J J J J J (by omega)) ?_|refine dx ?_)
    rw[show((cP (v.c.ks.take j):Nat):Int)+1=((cP (v.c.ks.take (j+1)):Nat):Int)by omega]
    refine aY (j+1) [true] hj (show v.kv.length - (j+1)<v.kv.length-j by omega) ⟨J,J,J,trivial⟩ rfl
 · have hjl:j=v.kv.length:=by omega
   subst hjl
   repeat' refine nx ?_
   refine aa rfl (by simp) ?_
   repeat' refine nx ?_
   (refine rt ?_;refine fun w hm=>⟨?_,hm.below⟩)
   rw[←hl,List.take_length]
end
section
open Go.RowKit
structure Iw where
 win:bk
 n:Int
def wX(w:bk):Iw:=if bi w=false∨w.held=0∨2 * w.held<w.size then⟨w,0⟩else⟨⟨w.size,w.left+w.held,0⟩,w.held⟩
theorem Es(w:bk):(wX w).n=yT w:=by unfold wX yT;split<;>rfl
theorem E5(d:ByteArray):(bj d).text.size≤d.size:=by
 unfold bj
 split
 · unfold eb
   repeat' split
   all_goals first
    |exact Nat.zero_le _
    |(show(d.extract _ d.size).size≤d.size;rw[ByteArray.size_extract];omega)
 · exact Nat.zero_le _
theorem sM{s:bZ}{f:aS}(h2:f.data.size<4294967281):(dU s f).text.size≤4611686018427387900:=by
 unfold dU dq
 split
 · exact Nat.zero_le _
 · have:=E5 f.data
   show(bj f.data).text.size≤_
   omega
theorem kY{s:bZ}{f:aS}(h1:s.text.size≤4611686018427387900)(h2:f.data.size<4294967281):(aZ s f).st.text.size≤4611686018427387900:=by
 unfold aZ
 repeat' split
 all_goals first
  |exact h1
  |exact sM h2
theorem BN{s:bZ}{f:aS}(h1:s.text.size≤4611686018427387900)(h2:f.data.size<4294967281):(bu s f).st.text.size≤4611686018427387900:=by
 unfold bu
 repeat' split
 all_goals first
  |exact h1
  |exact sM h2
theorem qv(s:bZ)(f:aS)(r:xN)(h:aZ s f=r)(w:World)(htx:s.text.size≤4611686018427387900)(hfd:f.data.size<4294967281)(hl:MLen w):Calls Tryz.prog 107 #[.agg ⟨tC s⟩,.agg #[.int .i64 f.kind,.int .i64 f.strm,.int .i64 f.num,.string f.data]] w fun e w'=>e= .returned (.tuple #[.agg ⟨tC r.st⟩,.int .i64 r.err])∧Below w.heap.size w w':=by
 subst h
 exact BE s.id s.side s.shape s.sent s.got s.se s.ge s.done s.code s.text s.snd.size s.snd.left s.snd.held s.rcv.size s.rcv.left s.rcv.held f.kind f.strm f.num f.data w htx hfd hl
attribute [local irreducible] Calls
theorem BO(a b c:Int)(w:World):Calls Tryz.prog 193 #[.agg #[.int .i64 a,.int .i64 b,.int .i64 c]] w fun e w'=>e= .returned (.tuple #[.agg #[.int .i64 (wX ⟨a,b,c⟩).win.size,.int .i64 (wX ⟨a,b,c⟩).win.left,.int .i64 (wX ⟨a,b,c⟩).win.held],.int .i64 (wX ⟨a,b,c⟩).n])∧Below w.heap.size w w':=by
 refine ai Tryz.func193 rfl Tryz.ntmps193 J J ?_
 repeat' (first|refine cl (fun w hm=>gz ⟨_,_,_⟩ w) ?_|(refine bx ?_;intro g)|(refine al ?_;intro g)|refine bI rfl (fun h=> ?_) (fun h=> ?_)|refine nx ?_)
 all_goals
  (refine rt ?_;refine fun w hm=>⟨?_,hm.below⟩)
 all_goals
  clear hm
  have w1:=fun h=>IntWalk.i64_in (2 * c) h
  have w2:=fun h=>IntWalk.i64_in (b+c) h
  unfold wX bi at *
  grind
theorem zm(x:bk)(u:Int)(w:World)(hu:0≤u∧u≤4611686018427387904)(hh:0≤x.held∧x.held≤4611686018427387904):Calls Tryz.prog 163 #[.agg #[.int .i64 x.size,.int .i64 x.left,.int .i64 x.held],.int .i64 u] w fun e w'=>e= .returned (.int .i64 (dD x u))∧Below w.heap.size w w':=by
 refine ai Tryz.func163 rfl Tryz.ntmps163 J J ?_
 repeat' (first|(refine bx ?_;intro g2)|refine nx ?_)
 by_cases h0:u=0
 · refine af rfl (by simpa using h0) ?_
   repeat' refine nx ?_
   (refine rt ?_;refine fun w hm=>⟨?_,hm.below⟩)
   rw[dD,if_pos h0]
 · refine aa rfl (by simpa using h0) ?_
   repeat' (first|refine vx rfl (mg J J J J J (by omega)) ?_|(refine al ?_;intro g5)|refine cl (fun w hm=>BO x.size x.left (x.held-u) w) ?_|refine nx ?_)
   (refine rt ?_;refine fun w hm=>⟨?_,hm.below⟩)
   rw[dD,if_neg h0,←Es]
theorem BP{A:Nat→Prop}(v:KV)(w:World)(hO:Rws A w 4 fC v.o v.k.ob)(hzo:v.k.ob.length≤3518437208883)(htx:v.k.st.text.size≤4611686018427387900)(hfd:∀f∈v.k.ob,f.data.size<4294967281)(hg:MLen w):Calls Tryz.prog 139 #[.agg ⟨KC v⟩] w fun e w'=>e= .returned (.tuple #[.agg ⟨tC (cQ v.k.ob v.k.st).st⟩,.int .i64 (cQ v.k.ob v.k.st).err])∧Below w.heap.size w w':=by
 refine ai Tryz.func139 rfl Tryz.ntmps139 J J ?_
 refine aD ?_
 refine ap ?_
 (refine bx ?_;intro g1)
 (refine al ?_;intro g2)
 repeat' (first|(refine al ?_;intro g4)|refine nx ?_)
 refine bT (σ:=Nat×bZ) (fun p=>p.1≤v.k.ob.length∧p.2.text.size≤4611686018427387900∧cQ v.k.ob v.k.st=cQ (v.k.ob.drop p.1) p.2) (fun p=>[(14,[],.int .i64 ((p.1:Nat):Int)),(13,[],.int .i64 ((v.k.ob.length:Nat):Int)),(12,[],.slice v.o v.k.ob.length v.oc),(4,[],.pointer (some ⟨g4,0,none⟩)),(2,[],.pointer (some ⟨g2,0,none⟩))]) (fun p=>[.cl g4 33 (tC p.2),.cl g2 33 [.int .i64 0,.int .i64 0,.int .i64 0,.int .i64 0,.int .i64 0,.bool false,.bool false,.bool false,.int .i64 0,.string ⟨#[]⟩,.int .i64 0,.int .i64 0,.int .i64 0,.int .i64 0,.int .i64 0,.int .i64 0]]) (fun p=>v.k.ob.length-p.1) (0,v.k.st) [true,true,false] ⟨Nat.zero_le _,htx,rfl⟩ ⟨J,J,J,J,J,trivial⟩ rfl ?_
 rintro⟨j,s⟩ ⟨hj0,hs0,hr⟩
 dsimp only at hj0 hs0 hr ⊢
 by_cases hj:j<v.k.ob.length
 · obtain⟨f,hf⟩:∃f,v.k.ob[j]? =some f:=⟨v.k.ob[j],List.getElem?_eq_getElem hj⟩
   obtain⟨bb,off,hx,_,_,hrows⟩:=hO (by omega)
   have hrow:w.rangeAt bb (off+j * 4) (fC f):=hrows j f hf
   have hfd0:=hfd f (List.mem_of_getElem? hf)
   obtain⟨r,hr0⟩:∃r,aZ (fA s) f=r:=⟨_,rfl⟩
   have hrt:r.st.text.size≤4611686018427387900:=by rw[←hr0];exact kY hs0 hfd0
   rw[eQ hf,cQ,hr0]at hr
   rw[hx]
   repeat' refine nx ?_
   refine af rfl (by simp;omega) ?_
   repeat' (first|refine vx rfl (ia (m:=4) j hj) ?_|refine vx rfl (rj (cs:=fC f) hrow) ?_|(refine al ?_;intro g6)|refine cl (fun w hm=>qv (fA s) f r hr0 w hs0 hfd0 (hg.below hm.below)) ?_|refine nx ?_)
   by_cases he:r.err=0
   · rw[if_neg (by simpa using he)]at hr
     refine aa rfl (by simpa using he) ?_
     repeat' (first|refine vx rfl (bm J J J J J (by omega)) ?_|refine dx ?_)
     refine aY (j+1,r.st) [false,false,true,true] ⟨hj,hrt,hr⟩ (show v.k.ob.length - (j+1)<v.k.ob.length-j by omega) ⟨J,J,J,J,J,trivial⟩ rfl
   · rw[if_pos (by simpa using he)]at hr
     refine af rfl (by simpa using he) ?_
     repeat' refine nx ?_
     (refine rt ?_;refine fun w1 hm=>⟨?_,hm.below⟩)
     rw[hr]
     rfl
 · rw[List.drop_eq_nil_of_le (by omega),cQ]at hr
   repeat' refine nx ?_
   refine aa rfl (by simp;omega) ?_
   repeat' refine nx ?_
   (refine rt ?_;refine fun w1 hm=>⟨?_,hm.below⟩)
   rw[hr]
   rfl
end
end Go.Proofs.YthiocbcokfondaaGreatDoor.Y
