import Derived.Test.YthiocbcokfondaaGreatDoorJBunA
import Derived.Test.YthiocbcokfondaaGreatDoorJBunE
import Derived.Test.YthiocbcokfondaaGreatDoorJCn28
import Derived.Test.YthiocbcokfondaaGreatDoorJYv
set_option maxRecDepth 100000
set_option maxHeartbeats 32000000
namespace Go.Proofs.YthiocbcokfondaaGreatDoor.Y
section
open Go.RowKit
section
variable {P:Program}{T:eV}{Q:Exit→Act→World→Prop}{n:Nat}{w0:World}{S:co}{M:List Ent}{o:Oper}{l0 rest:List Oper}{d:Nat}
theorem gI{α:Type}{f:α→List Value}(l:List α)(hT:TOK P T)(i:Nat){s x:Operand}{t e:TypeId}{z:Value}{td:TD}{a a2:Option Addr}{cap k c b m:Nat}{xs:List Value}{M2:Option Addr→Nat→List Ent}(h1:o.op= .call ⟨.builtin .append, #[s,x], #[t,t]⟩)(hg:o.guard=none)
 (h2:ev S s=some ([],.slice a k cap)) (h3:ev S x=some ([],.slice a2 m c)) (hm:m=l.length) (h4:lk t T=some (.slc e z)) (h5:lk e T=some td) (h6:(match kC td with|some l=>Nat.beq l.length td.size&&Nat.blt 0 td.size|none=>false)=true)
 (hi:ez M i=some (.own a cap e td.size k xs)) (h9:∀a' cap',eP M i (.own a' cap' e td.size (k+m) (xs++l.flatMap f))=some (M2 a' cap')) (hb:fv P e b)
 (hnil:a2=none→c=0) (hf:∀y,(f y).length=td.size) (h1c:∀y,∀u∈f y,u.oneCell'=true) (hrow:∀w,Mem w0 w M→ ∃A,Rws A w td.size f a2 l)
 (hmax:k+m≤maxLen) (hbytes:(k+m) * b≤140737488355328)
 (hd:o.dst=some d) (hn:Nat.blt d n=true) (h:∀a' cap',SL P l0 Q rest n w0 ((d,[],.slice a' (k+m) cap')::S) (M2 a' cap')):SL P l0 Q (o::rest) n w0 S M:=by
 subst hm
 have hpos:0<td.size:=by
  cases hzo:kC td with
  |none=>rw[hzo]at h6;cases h6
  |some l=>
   rw[hzo]at h6
   simp only[Bool.and_eq_true]at h6
   exact Nat.le_of_ble_eq_true h6.2
 refine⟨fun ac w hS hM=> ?_⟩
 cases a2 with
 |none=>
  obtain rfl:=hnil rfl
  have hl:l=[]:=by
   refine List.eq_nil_of_length_eq_zero (Decidable.byContradiction fun h0=> ?_)
   obtain⟨A,hr⟩:=hrow w hM
   obtain⟨_,_,hx,_⟩:=hr (by omega)
   cases hx
  subst hl
  refine(Dq hT i h1 hg h2 h3 h4 h5 hi hd hn ?_).run ac w hS hM
  have h':=h a cap
  have h9':=h9 a cap
  simp only[List.length_nil,Nat.add_zero,List.flatMap_nil,List.append_nil]at h9' h'
  rwa [Option.some.inj ((rZ hi).symm.trans h9')]
 |some ad=>
  have hlen:(l.flatMap f).length=l.length * td.size:=dV hf l
  refine(mh hT i h1 hg h2 h3 h4 h5 h6 hi h9 hb (fun w1 hM1 j u hu=> ?_) (.inr fun u hu=> ?_) hlen hmax hbytes hd hn h).run ac w hS hM
  · obtain⟨y,hy,hyu⟩:=Br hf hpos hu
    obtain⟨A,hr⟩:=hrow w1 hM1
    obtain⟨b9,o9,hx,_,_,hrr⟩:=hr (Nat.lt_of_le_of_lt (Nat.zero_le _) (List.getElem?_eq_some_iff.1 hy).1)
    obtain rfl:=Option.some.inj hx
    have h3:=hrr _ y hy _ u hyu
    have e:(⟨b9,o9,none⟩:Addr).add j=⟨b9,o9+j / td.size * td.size+j % td.size,none⟩:=by
     rw[Addr.add_lit,Nat.add_assoc,Nat.mul_comm (j / td.size),Nat.div_add_mod]
    rw[e]
    exact h3
  · obtain⟨y,_,hy⟩:=List.mem_flatMap.1 hu
    exact h1c y u hy
end
end
section
open Go.RowKit
structure Io(u:KV):Prop where
 i:u.i=none→u.ic=0
 o:u.o=none→u.oc=0
 m:True
 il:u.k.ib.length≤u.ic
 ol:u.k.ob.length≤u.oc
structure fW(v:NV):Prop where
 x:v.x=none→v.xc=0
 o:v.o=none→v.oc=0
 p:v.p=none→v.pc=0
 xl:v.kv.length≤v.xc
 ol:v.c.ou.length≤v.oc
 pl:v.c.pg.length≤v.pc
 k:∀u∈v.kv,Io u
section
variable {P:Program}{T:eV}{l0 rest:List Oper}{Z:Act→World→Prop}{Q:Exit→Act→World→Prop}{n:Nat}{w0:World}{S:co}{M M' M2:List Ent}{p:World→Prop}{L:Cd}{o:Oper}{d:Nat}
theorem Af{σ:Type}{f:FuncId}{args:List Value}(Φ:σ→Prop)(V:σ→Value)(N:σ→List Ent)(hg:o.guard=none)(ho:dS P S [] o f args)(hk:(qp o.op).pure=false)(hk2:(qp o.op).read=false)(hc:∀w,Mem w0 w M→Calls P f ⟨args⟩ w fun e w'=> ∃s,Φ s∧e= .returned (V s)∧Mem w0 w' (N s))
 (hM':∀s w,Mem w0 w (N s)→Mem w0 w M'∧p w) (hd:o.dst=some d) (hn:Nat.blt d n=true) (h:∀s,Φ s→SY P l0 Z rest n w0 M' p ((d,[],V s)::S) (N s)):SY P l0 Z (o::rest) n w0 M' p S M:=by
 have hdn:d<n:=Nat.le_of_ble_eq_true hn
 refine⟨fun a w hS hM=>bH (by unfold Region.wanted;rw[hg]) hk hk2 fun K hK=> ?_⟩
 refine Vals.wp (R:=fun v' w'=> ∃s,Φ s∧v'=V s∧Mem w0 w' (N s)) rfl (ea (ho.ok n a w hS rfl) ((hc w hM).mono fun e w' ⟨s,h1,h2,h3⟩=>⟨V s,h2,s,h1,rfl,h3⟩)) (fun v' w' ⟨s,h1,hv,hm⟩=>hK _ _ ⟨hM' _ _ hm,(h s h1).run _ _ ?_ hm⟩)
 subst hv
 rw[hd];exact hS.put hdn (by simp[aJ])
end
section
variable {A F0:Nat→Prop}{P:Program}{l0 rest:List Oper}{Z:Act→World→Prop}{Q:Exit→Act→World→Prop}{n:Nat}{w:World}{S:co}{M M':List Ent}{p:World→Prop}{o:Oper}{d:Nat}{f:FuncId}{args:List Value}{C:NL}{V:NV→Value}
theorem aR(hs:Fa A w M F0)(hc:∀w1,Mem w w1 M→Calls P f ⟨args⟩ w1 fun e w2=> ∃s:NV,s.c=C∧e= .returned (V s)∧OutN F0 w1 w2 s∧fW s)(h:∀ (s:NV) (F:Nat→Prop),s.c=C→fW s→(∀b,F b→A b∨w.heap.size≤b)→SL P l0 Q rest n w ((d,[],V s)::S) (.rep F (fun w=>NOk F w s)::M))(ho:dS P S [] o f args:=by first|exact ag J J J J ⟨J,trivial⟩ rfl (by kernel_rfl)|exact ag J J J J ⟨J,J,trivial⟩ rfl (by kernel_rfl)|exact ag J J J J ⟨J,J,J,trivial⟩ rfl (by kernel_rfl))(hg:o.guard=none:=by exact rfl)(hd:o.dst=some d:=by exact rfl)(hn:Nat.blt d n=true:=by exact rfl):SL P l0 Q (o::rest) n w S M:=
 jJ (σ:=NV) (fun s F=>(s.c=C∧fW s)∧ ∀b,F b→A b∨w.heap.size≤b) V (fun s F w=>NOk F w s) hg ho (fun w1 hm=>(hc w1 hm).mono fun e w2 ⟨s,h1,h2,h3,h4⟩=>by obtain⟨F,h5,h6⟩:=tS hm hs h3;exact⟨s,F,⟨⟨h1,h4⟩,h5⟩,h2,h6⟩) hd hn (fun s F hh=>h s F hh.1.1 hh.1.2 hh.2)
theorem iT(bs:List Bool)(hs:Fa A w M F0)(hc:∀w1,Mem w w1 M→Calls P f ⟨args⟩ w1 fun e w2=> ∃s:NV,s.c=C∧e= .returned (V s)∧OutN F0 w1 w2 s∧fW s)(h:∀ (s:NV) (F:Nat→Prop),s.c=C→fW s→(∀b,F b→A b∨w.heap.size≤b)→SY P l0 Z rest n w M' (fun _=>True) ((d,[],V s)::S) (.rep F (fun w=>NOk F w s)::M))(ho:dS P S [] o f args:=by first|exact ag J J J J ⟨J,trivial⟩ rfl (by kernel_rfl)|exact ag J J J J ⟨J,J,trivial⟩ rfl (by kernel_rfl)|exact ag J J J J ⟨J,J,J,trivial⟩ rfl (by kernel_rfl))(hg:o.guard=none:=by exact rfl)(hd:o.dst=some d:=by exact rfl)(hn:Nat.blt d n=true:=by exact rfl)(hk:(qp o.op).pure=false:=by exact rfl)(hk2:(qp o.op).read=false:=by exact rfl)(hb:∀F p,jE (false::bs) (.rep F p::M)=M':=by exact fun _ _=>rfl):SY P l0 Z (o::rest) n w M' (fun _=>True) S M:=
 Af (σ:=NV×(Nat→Prop)) (fun s=>(s.1.c=C∧fW s.1)∧ ∀b,s.2 b→A b∨w.heap.size≤b) (fun s=>V s.1) (fun s=> .rep s.2 (fun w=>NOk s.2 w s.1)::M) hg ho hk hk2 (fun w1 hm=>(hc w1 hm).mono fun e w2 ⟨s,h1,h2,h3,h4⟩=>by obtain⟨F,h5,h6⟩:=tS hm hs h3;exact⟨(s,F),⟨⟨h1,h4⟩,h5⟩,h2,h6⟩) (fun s w1 hM=>⟨hM.mask (false::bs) (hb s.2 _),trivial⟩) hd hn (fun s hh=>h s.1 s.2 hh.1.1 hh.1.2 hh.2)
theorem pD{α:Type}{f:α→List Value}{sz cap m:Nat}{T:TypeId}{sb:Option Addr}{xs:List Value}(j:Nat)(l:List α)(hf:∀x,(f x).length=sz)(hi:mS M j=some (.own sb cap T sz m xs,M'))(hn:m=l.length)(hx:xs=l.flatMap f)(h:(sb=none→cap=0)→l.length≤cap→(∀b,(∃ad,sb=some ad∧b=ad.block)→A b∨w.heap.size≤b)→SL P l0 Q rest n w S (.rep (fun b=> ∃ad,sb=some ad∧b=ad.block) (fun w=>Rws (fun b=> ∃ad,sb=some ad∧b=ad.block) w sz f sb l)::M')):SL P l0 Q rest n w S M:=by
 refine⟨fun ac w1 hS hM=> ?_⟩
 have hM1:=hM.pull j hi
 have ho:=hM1.2.get (i:=0) rfl
 subst hn
 subst hx
 exact(h (mW ho) (fo ho) (fun b ⟨ad,h1,h2⟩=>by subst h1;exact .inr (Ent.ok.mut_lt ho h2).1)).run ac w1 hS (Mem.toRep1 l hf J J hM1)
theorem vV{v:Value}(hg:o.guard=none)(hv:VO P w S M [] o v)(hd:o.dst=some d)(hn:Nat.blt d n=true)(h:SQ Q .normal n w ((d,[],v)::S) M):SY P l0 (hX P l0.toArray o (Q .normal)) [] n w M' p S M:=by
 have hdn:d<n:=Nat.le_of_ble_eq_true hn
 refine⟨fun a w1 hS hM=>dN ?_⟩
 unfold hX
 rw[if_pos (by unfold Region.wanted;rw[hg])]
 unfold Oper.wp
 rw[hv n a w1 hS hM rfl]
 simp only[Oper.upon]
 refine h.run _ _ ?_ hM
 rw[hd];exact hS.put hdn (by simp[aJ])
end
end
section
open Go.RowKit
theorem EE(f:aS):∀x∈fC f,x.oneCell'=true:=dY rfl
attribute [local irreducible] Calls
theorem eN{A:Nat→Prop}(v:NV)(f:aS)(w:World)(hN:NOk A w v)(hw:fW v)(hl:v.c.ou.length≤2000000000):Calls Tryz.prog 111 #[.agg #[.int .i64 v.c.sd,.int .i64 v.c.nx,.int .i64 v.c.la,.int .i64 v.c.aw,.int .i64 v.c.sz,.int .i64 v.c.sw.size,.int .i64 v.c.sw.left,.int .i64 v.c.sw.held,.int .i64 v.c.rw.size,.int .i64 v.c.rw.left,.int .i64 v.c.rw.held,.slice v.x v.kv.length v.xc,.slice v.o v.c.ou.length v.oc,.slice v.p v.c.pg.length v.pc,.bool v.c.cl],.agg #[.int .i64 f.kind,.int .i64 f.strm,.int .i64 f.num,.string f.data]] w fun e w'=> ∃v':NV,v'.c={v.c with ou:=v.c.ou++[f]}∧e= .returned (.agg ⟨NC v'⟩)∧OutN A w w' v'∧fW v':=by
 refine ai Tryz.func111 rfl Tryz.ntmps111 J J ?_
 repeat' (first|(refine bx ?_;intro g2)|(refine al ?_;intro g4)|refine nx ?_)
 refine kR 65 4 ?_
 refine gI v.c.ou ae 0 J J J J J J J J J (fun _ _=>rfl) fP hw.o dy EE (fun w1 hm=>⟨_,hN.ou.below hm.below⟩) (by unfold maxLen;omega) (by omega) J J ?_;intro sa sc
 repeat' (first|(refine cc ae J J J ⟨J,trivial⟩ J J J J J J J J ?_;intro g)|(refine bB ae 1 0 J J J J J J J J J (fun _ _=>rfl) fP J J (by unfold maxLen;omega) (by omega) J J ?_;intro sb sd)|refine nx ?_)
 have hlq:(v.c.ou++[f]).length=0+v.c.ou.length+1:=by simp
 have hfl:(v.c.ou++[f]).flatMap fC=[]++v.c.ou.flatMap fC++fC f:=by simp
 (refine rt ?_;refine fun w1 hm=>⟨⟨{v.c with ou:=v.c.ou++[f]},v.x,v.xc,v.kv,sb,sd,v.p,v.pc⟩,rfl,?_,?_,?_⟩)
 · simp only[NC,hlq]
 · have hown:w1.ownsRow w.heap.size 65 4 (.slice sb (0+v.c.ou.length+1) sd) (0+v.c.ou.length+1) ([]++v.c.ou.flatMap fC++fC f):=hm.2.get (i:=1) rfl
   rw[←hlq,←hfl]at hown
   exact⟨⟨(hN.ks.below hm.below).mono fun _=> .inl,(Rws.own dy hown).mono fun _=> .inr,(hN.pg.below hm.below).mono fun _=> .inl,hN.eq,fun u hu=>((hN.ok u hu).below hm.below).mono fun _=> .inl⟩,hm.below⟩
 · have hown:w1.ownsRow w.heap.size 65 4 (.slice sb (0+v.c.ou.length+1) sd) (0+v.c.ou.length+1) ([]++v.c.ou.flatMap fC++fC f):=hm.2.get (i:=1) rfl
   rw[←hlq]at hown
   exact⟨hw.x,mW hown,hw.p,hw.xl,fo hown,hw.pl,hw.k⟩
theorem GG(g o i c:Nat):Value.slice (if c=0 then some ⟨g,o,none⟩else(some (⟨g,o,none⟩:Addr)).map (·.add (0 * 22))) (i-0) (c-0)= .slice (some ⟨g,o,none⟩) i c:=by
 rw[Nat.sub_zero,Nat.sub_zero]
 split
 · rfl
 · rw[Nat.zero_mul]
   show Value.slice (some ((⟨g,o,none⟩:Addr).add 0)) i c=_
   rw[Addr.add_lit]
   rfl
def oZ(g o i c:Nat):Option Addr:=if c=i then some ⟨g,o,none⟩else some ⟨g,o+i * 22,none⟩
theorem GH(g o i n c:Nat):Value.slice (if c=i then some ⟨g,o,none⟩else(some (⟨g,o,none⟩:Addr)).map (·.add (i * 22))) (n-i) (c-i)= .slice (oZ g o i c) (n-i) (c-i):=by
 unfold oZ
 split
 · rfl
 · show Value.slice (some ((⟨g,o,none⟩:Addr).add (i * 22))) _ _=_
   rw[Addr.add_lit]
theorem qV{g o i c:Nat}{P:Prop}(h:oZ g o i c=none):P:=by
 unfold oZ at h
 split at h<;>cases h
theorem vW{A:Nat→Prop}{w:World}{g o i c:Nat}{l:List KV}(h:Rws A w 22 KC (some ⟨g,o,none⟩) l)(hc:l.length≤c):Rws A w 22 KC (oZ g o i c) (l.drop i):=fun h0=>by
 rw[List.length_drop]at h0
 obtain⟨b,off,h1,h2,h3,h4⟩:=h (by omega)
 cases h1
 refine⟨g,o+i * 22,by unfold oZ;rw[if_neg (by omega)],h2,h3,fun j v hj=> ?_⟩
 rw[List.getElem?_drop]at hj
 have:=h4 (i+j) v hj
 rw[Nat.add_mul]at this
 rw[Nat.add_assoc]
 exact this
theorem Ag{l:List KV}{i:Nat}{u:KV}(hi:i<l.length):l.set i u=l.take i++[u]++l.drop (i+1):=by
 rw[List.set_eq_take_append_cons_drop,if_pos hi];simp
theorem eB{A:Nat→Prop}(v:NV)(i:Nat)(u:KV)(w:World)(hN:NOk A w v)(hw:fW v)(hi:i<v.kv.length)(hzk:v.kv.length≤606626243774)(hu:KOk A w u)(hwu:Io u):Calls Tryz.prog 117 #[.agg #[.int .i64 v.c.sd,.int .i64 v.c.nx,.int .i64 v.c.la,.int .i64 v.c.aw,.int .i64 v.c.sz,.int .i64 v.c.sw.size,.int .i64 v.c.sw.left,.int .i64 v.c.sw.held,.int .i64 v.c.rw.size,.int .i64 v.c.rw.left,.int .i64 v.c.rw.held,.slice v.x v.kv.length v.xc,.slice v.o v.c.ou.length v.oc,.slice v.p v.c.pg.length v.pc,.bool v.c.cl],.int .i64 ((i:Nat):Int),.agg #[.int .i64 u.k.st.id,.int .i64 u.k.st.side,.int .i64 u.k.st.shape,.int .i64 u.k.st.sent,.int .i64 u.k.st.got,.bool u.k.st.se,.bool u.k.st.ge,.bool u.k.st.done,.int .i64 u.k.st.code,.string u.k.st.text,.int .i64 u.k.st.snd.size,.int .i64 u.k.st.snd.left,.int .i64 u.k.st.snd.held,.int .i64 u.k.st.rcv.size,.int .i64 u.k.st.rcv.left,.int .i64 u.k.st.rcv.held,.string u.k.sv,.string u.k.mt,.int .i64 u.k.lt,.slice u.m u.k.ms.length u.mc,.slice u.i u.k.ib.length u.ic,.slice u.o u.k.ob.length u.oc]] w fun e w'=> ∃v':NV,v'.c={v.c with ks:=v.c.ks.set i u.k}∧e= .returned (.agg ⟨NC v'⟩)∧OutN A w w' v'∧fW v':=by
 refine ai Tryz.func117 rfl Tryz.ntmps117 J J ?_
 have hcap:=hw.xl
 obtain⟨bb,off,hx,_,_,_⟩:=hN.ks (by omega)
 have hks:Rws A w 22 KC (some ⟨bb,off,none⟩) v.kv:=hx ▸ hN.ks
 have htk:(v.kv.take i).length=i:=by rw[List.length_take];omega
 have hdr:(v.kv.drop (i+1)).length=v.kv.length - (i+1):=List.length_drop
 rw[hx]
 repeat' (first|refine vx rfl (qi (v:= .slice (some ⟨bb,off,none⟩) i v.xc) (dQ ae 0 i J J J J J J J J J J J (by omega) (by omega)) (GG bb off i v.xc)) ?_|(refine bx ?_;intro g3)|(refine al ?_;intro g6)|refine nx ?_)
 refine kR 39 22 ?_
 refine gI (v.kv.take i) ae 0 J J J J htk.symm J J J J (fun _ _=>rfl) gW (fun h=>by cases h) aO kz (fun w1 hm=>⟨_,(hks.take fun j y hy=>(by rw[List.getElem?_take]at hy;split at hy;exact hy;cases hy)).below hm.below⟩) (by unfold maxLen;omega) (by omega) J J ?_
 intro sa sc
 repeat' (first|refine vx rfl (bm J J J J J (by omega)) ?_|(refine cc ae J J J ⟨J,trivial⟩ J J J J J J J J ?_;intro g)|(refine bB ae 1 0 J J J J J J J J J (fun _ _=>rfl) gW J J (by unfold maxLen;omega) (by omega) J J ?_;intro sb sd)|refine nx ?_)
 repeat' (first|refine vx rfl (qi (v:= .slice (oZ bb off (i+1) v.xc) (v.kv.length - (i+1)) (v.xc - (i+1))) (dQ ae (i+1) v.kv.length J J J J J J J J J J J (by omega) hw.xl) (GH bb off (i+1) v.kv.length v.xc)) ?_|refine vx rfl (bm J J J J J (by omega)) ?_|refine nx ?_)
 refine gI (v.kv.drop (i+1)) ae 1 J J J J hdr.symm J J J J (fun _ _=>rfl) gW (fun h=>qV h) aO kz (fun w1 hm=>⟨_,(vW hks hw.xl).below hm.below⟩) (by unfold maxLen;omega) (by omega) J J ?_
 intro se sf
 repeat' refine nx ?_
 have hlq:(v.kv.set i u).length=0+i+1+(v.kv.length - (i+1)):=by rw[List.length_set];omega
 have hfl:(v.kv.set i u).flatMap KC=[]++(v.kv.take i).flatMap KC++KC u++(v.kv.drop (i+1)).flatMap KC:=by rw[Ag hi];simp
 (refine rt ?_;refine fun w1 hm=>⟨⟨{v.c with ks:=v.c.ks.set i u.k},se,sf,v.kv.set i u,v.o,v.oc,v.p,v.pc⟩,rfl,?_,?_,?_⟩)
 · simp only[NC,hlq]
 · have hown:w1.ownsRow w.heap.size 39 22 (.slice se (0+i+1+(v.kv.length - (i+1))) sf) (0+i+1+(v.kv.length - (i+1))) ([]++(v.kv.take i).flatMap KC++KC u++(v.kv.drop (i+1)).flatMap KC):=hm.2.get (i:=1) rfl
   rw[←hlq,←hfl]at hown
   refine⟨⟨(Rws.own aO hown).mono fun _=> .inr,(hN.ou.below hm.below).mono fun _=> .inl,(hN.pg.below hm.below).mono fun _=> .inl,by dsimp only;rw[hN.eq,List.map_set],fun y hy=> ?_⟩,hm.below⟩
   rcases fR hi hy with rfl|hy
   · exact(hu.below hm.below).mono fun _=> .inl
   · exact((hN.ok y (List.mem_of_mem_eraseIdx hy)).below hm.below).mono fun _=> .inl
 · have hown:w1.ownsRow w.heap.size 39 22 (.slice se (0+i+1+(v.kv.length - (i+1))) sf) (0+i+1+(v.kv.length - (i+1))) ([]++(v.kv.take i).flatMap KC++KC u++(v.kv.drop (i+1)).flatMap KC):=hm.2.get (i:=1) rfl
   rw[←hlq]at hown
   refine⟨mW hown,hw.o,hw.p,fo hown,hw.ol,hw.pl,fun y hy=> ?_⟩
   rcases fR hi hy with rfl|hy
   · exact hwu
   · exact hw.k y (List.mem_of_mem_eraseIdx hy)
end
section
open Go.RowKit
theorem lW{A:Nat→Prop}{w:World}{v:NV}(h:NOk A w v)(c:NL)(h1:c.ks=v.c.ks)(h2:c.ou=v.c.ou)(h3:c.pg=v.c.pg):NOk A w ⟨c,v.x,v.xc,v.kv,v.o,v.oc,v.p,v.pc⟩:=
 ⟨h.ks,by show Rws A w 4 fC v.o c.ou;rw[h2];exact h.ou,by show Rws A w 1 iC v.p c.pg;rw[h3];exact h.pg,by show c.ks=_;rw[h1];exact h.eq,h.ok⟩
attribute [local irreducible] Calls
theorem Ah(a b c:Int)(w:World):Calls Tryz.prog 200 #[.agg #[.int .i64 a,.int .i64 b,.int .i64 c]] w fun e w'=>e= .returned (.tuple #[.agg #[.int .i64 (wX ⟨a,b,c⟩).win.size,.int .i64 (wX ⟨a,b,c⟩).win.left,.int .i64 (wX ⟨a,b,c⟩).win.held],.int .i64 (wX ⟨a,b,c⟩).n])∧Below w.heap.size w w':=by
 refine ai Tryz.func200 rfl Tryz.ntmps200 J J ?_
 repeat' (first|(refine bx ?_;intro g)|(refine al ?_;intro g)|refine bI rfl (fun h=> ?_) (fun h=> ?_)|refine cl (fun w hm=>jd ⟨_,_,_⟩ w) ?_|refine nx ?_)
 all_goals (refine rt ?_;refine fun w hm=>⟨?_,hm.below⟩)
 all_goals
  clear hm
  have w1:=fun h=>IntWalk.i64_in (2 * c) h
  have w2:=fun h=>IntWalk.i64_in (b+c) h
  unfold wX bi at *
  grind
theorem Fv(a b c n:Int)(h:yT ⟨a,b,c⟩=n)(w:World):Calls Tryz.prog 200 #[.agg #[.int .i64 a,.int .i64 b,.int .i64 c]] w fun e w'=>e= .returned (.tuple #[.agg #[.int .i64 (wX ⟨a,b,c⟩).win.size,.int .i64 (wX ⟨a,b,c⟩).win.left,.int .i64 (wX ⟨a,b,c⟩).win.held],.int .i64 n])∧Below w.heap.size w w':=by
 subst h
 rw[←Es]
 exact Ah a b c w
theorem Ai(x:bk)(u n:Int)(w:World)(hn:dD x u=n)(hx:bi x=true)(hu0:0≤u)(hu1:u≤x.held):Calls Tryz.prog 174 #[.agg #[.int .i64 x.size,.int .i64 x.left,.int .i64 x.held],.int .i64 u] w fun e w'=>e= .returned (.tuple #[.agg #[.int .i64 x.size,.int .i64 (x.left+n),.int .i64 (x.held-n)],.int .i64 n])∧Below w.heap.size w w':=by
 refine ai Tryz.func174 rfl Tryz.ntmps174 J J ?_
 have hwo:=aW.1 hx
 obtain⟨hb0,hb1⟩:=jj hx hu0 hu1
 rw[hn]at hb0 hb1
 repeat' (first|(refine bx ?_;intro g2)|(refine al ?_;intro g4)|refine nx ?_)
 by_cases h0:u=0
 · have e:x.held=n:=by rw[←hn,dD,if_pos h0]
   refine aa rfl (decide_eq_false (by omega)) ?_
   rw[e]
   repeat' (first|refine vx rfl (bm J J J J J (by omega)) ?_|refine vx rfl (mg J J J J J (by omega)) ?_|refine nx ?_)
   (refine rt ?_;refine fun w1 hm=>⟨rfl,hm.below⟩)
 · have e:yT ⟨x.size,x.left,x.held-u⟩=n:=by rw[←hn,dD,if_neg h0]
   refine af rfl (decide_eq_true (by omega)) ?_
   repeat' (first|refine vx rfl (bm J J J J J (by omega)) ?_|refine vx rfl (mg J J J J J (by omega)) ?_|(refine al ?_;intro g7)|refine cl (fun w hm=>Fv x.size x.left (x.held-u) n e w) ?_|refine nx ?_)
   (refine rt ?_;refine fun w1 hm=>⟨rfl,hm.below⟩)
theorem tZ(x:bk)(u n:Int)(hn:dD x u=n)(w:World)(hx:bi x=true)(hu0:0≤u)(hu1:u≤x.held):Calls Tryz.prog 174 #[.agg #[.int .i64 x.size,.int .i64 x.left,.int .i64 x.held],.int .i64 u] w fun e w'=>e= .returned (.tuple #[.agg #[.int .i64 x.size,.int .i64 (x.left+n),.int .i64 (x.held-n)],.int .i64 n])∧Below w.heap.size w w':=Ai x u n w hn hx hu0 hu1
theorem my{A:Nat→Prop}(v:NV)(w:World)(hN:NOk A w v)(hw:fW v)(hrw:bi v.c.rw=true)(htt:ba v.c.ks≤v.c.rw.held)(hkl:v.kv.length≤606626243774)(hol:v.c.ou.length≤2000000000):Calls Tryz.prog 118 #[.agg ⟨NC v⟩] w fun e w'=> ∃v':NV,v'.c=gbC v.c∧e= .returned (.agg ⟨NC v'⟩)∧OutN A w w' v'∧fW v':=by
 refine ai Tryz.func118 rfl Tryz.ntmps118 J J ?_
 have hwo:=aW.1 hrw
 obtain⟨T,hT⟩:∃T,ba v.c.ks=T:=⟨_,rfl⟩
 obtain⟨n,hn⟩:∃n,dD v.c.rw T=n:=⟨_,rfl⟩
 have hT0:0≤T:=by rw[←hT];exact ep _
 rw[hT]at htt
 have hbl:=jj hrw hT0 htt
 rw[hn]at hbl
 have hzi:∀u∈v.kv,u.k.ib.length≤8796093022208:=fun u hu=>by
  have h1:=gY u.k.ib
  have h2:aT u.k.ib≤ba v.c.ks:=gA (by rw[hN.eq];exact List.mem_map_of_mem hu)
  rw[hT]at h2
  omega
 repeat' (first|(refine bx ?_;intro g1)|(refine al ?_;intro g2)|refine nx ?_)
 by_cases hcl:v.c.cl=true
 · have hg:gbC v.c=v.c:=by unfold gbC;rw[if_pos (.inl hcl)]
   refine af rfl hcl ?_
   repeat' refine nx ?_
   (refine rt ?_;refine fun w1 hm=>⟨v,?_,rfl,OutN.same hN hm.below,hw⟩)
   rw[hg]
 refine aa rfl (eq_false_of_ne_true hcl) ?_
 repeat' (first|refine cl (fun w hm=>Ca v T hT w (hN.below hm.below) hkl (by rw[hT];omega) hzi) ?_|refine cd (fun w hm=>Ca v T hT w (hN.below hm.below) hkl (by rw[hT];omega) hzi) ?_|refine cl (fun w hm=>tZ v.c.rw T n hn w hrw hT0 htt) ?_|refine cd (fun w hm=>tZ v.c.rw T n hn w hrw hT0 htt) ?_|refine ny ?_|refine nx ?_)
 intro g3
 repeat' refine nx ?_
 by_cases h1:n<1
 · have hg:gbC v.c=v.c:=by unfold gbC;rw[if_pos (.inr (by rw[hT,hn];omega))]
   refine af rfl (decide_eq_true h1) ?_
   repeat' refine nx ?_
   (refine rt ?_;refine fun w1 hm=>⟨v,?_,rfl,OutN.same hN hm.below,hw⟩)
   rw[hg]
 have hg:gbC v.c={v.c with rw:=xO v.c.rw n,ou:=v.c.ou++[(⟨6,0,n,emptyB⟩:aS)]}:=by unfold gbC;rw[if_neg (by rw[hT,hn];rintro(h|h);exact hcl h;omega),hT,hn]
 refine aa rfl (decide_eq_false h1) ?_
 repeat' refine nx ?_
 refine aR bd (fun w1 hm=>eN (⟨{v.c with rw:=xO v.c.rw n},v.x,v.xc,v.kv,v.o,v.oc,v.p,v.pc⟩:NV) (⟨6,0,n,emptyB⟩:aS) w1 (lW (hN.lt.below hm.below) _ J J J) ⟨hw.x,hw.o,hw.p,hw.xl,hw.ol,hw.pl,hw.k⟩ hol) ?_
 rintro V1 F hc1 hw1 hF
 repeat' refine nx ?_
 (refine rt ?_;refine fun w1 hm=>⟨V1,hc1.trans hg.symm,rfl,aL (hm.2.get (i:=0) rfl).2.1 hF hm.below,hw1⟩)
end
section
open Go.RowKit
theorem Hz(n:Int)(t:pf)(h:gT n=t)(w:World):Calls Tryz.prog 48 #[.int .i64 n] w fun e w'=>e= .returned (.tuple #[.agg #[.int .i64 t.win.size,.int .i64 t.win.left,.int .i64 t.win.held],.int .i64 t.err])∧Below w.heap.size w w':=by
 subst h
 exact sD n w
attribute [local irreducible] Calls
theorem Aj(sd sz:Int)(w:World):Calls Tryz.prog 19 #[.int .i64 sd,.int .i64 sz] w fun e w'=>e= .returned (.tuple #[.agg ⟨NC (ju (fG sd sz).1)⟩,.int .i64 (fG sd sz).2])∧Below w.heap.size w w':=by
 refine ai Tryz.func19 rfl Tryz.ntmps19 J J ?_
 obtain⟨r,hr⟩:∃r,gT sz=r:=⟨_,rfl⟩
 repeat' (first|(refine al ?_;intro g4)|refine cl (fun w hm=>Hz sz r hr w) ?_|refine nx ?_)
 by_cases h:(sd≠1∧sd≠2)∨r.err≠0
 · have hc:fG sd sz=(Hg,1):=by unfold fG;rw[hr,if_pos h]
   rw[hc]
   refine af rfl (by
    rcases h with ⟨a,b⟩|h
    · have e1:(sd !=1)=true:=by simpa using a
      have e2:(sd !=2)=true:=by simpa using b
      rw[e1,e2];simp
    · have e1:(r.err !=0)=true:=by simpa using h
      rw[e1];rfl) ?_
   repeat' refine nx ?_
   (refine rt ?_;refine fun w1 hm=>⟨rfl,hm.below⟩)
 · have hc:fG sd sz=(⟨sd,1,0,0,sz,r.win,r.win,[],[],[],false⟩,0):=by unfold fG;rw[hr,if_neg h]
   rw[hc]
   refine aa rfl (by
    cases e1:(r.err !=0)with
    |true=>exact absurd (.inr (by simpa using e1)) h
    |false=>
     cases e2:(sd !=1)with
     |false=>rfl
     |true=>
      cases e3:(sd !=2)with
      |false=>rfl
      |true=>exact absurd (.inl ⟨by simpa using e2,by simpa using e3⟩) h) ?_
   repeat' refine nx ?_
   (refine rt ?_;refine fun w1 hm=>⟨rfl,hm.below⟩)
theorem vX{A:Nat→Prop}(v:NV)(i:Nat)(u:KV)(w:World)(hN:NOk A w v)(hw:fW v)(hat:v.kv[i]? =some u)(hrv:bi u.k.st.rcv=true)(hun:u.k.st.done=false→aT u.k.ib≤u.k.st.rcv.held)(hkl:v.kv.length≤606626243774)(hol:v.c.ou.length≤2000000000):Calls Tryz.prog 119 #[.agg #[.int .i64 v.c.sd,.int .i64 v.c.nx,.int .i64 v.c.la,.int .i64 v.c.aw,.int .i64 v.c.sz,.int .i64 v.c.sw.size,.int .i64 v.c.sw.left,.int .i64 v.c.sw.held,.int .i64 v.c.rw.size,.int .i64 v.c.rw.left,.int .i64 v.c.rw.held,.slice v.x v.kv.length v.xc,.slice v.o v.c.ou.length v.oc,.slice v.p v.c.pg.length v.pc,.bool v.c.cl],.int .i64 ((i:Nat):Int)] w fun e w'=> ∃v':NV,v'.c=(if u.k.st.done=true then v.c else gbK v.c i u.k.st.id)∧e= .returned (.agg ⟨NC v'⟩)∧OutN A w w' v'∧fW v':=by
 refine ai Tryz.func119 rfl Tryz.ntmps119 J J ?_
 have hwo:=aW.1 hrv
 have hum:=List.mem_of_getElem? hat
 have hi:i<v.kv.length:=(List.getElem?_eq_some_iff.1 hat).1
 have hwu:=hw.k u hum
 obtain⟨bb,boff,hx,_,_,hrows⟩:=hN.ks (by omega)
 have hrow:w.rangeAt bb (boff+i * 22) (KC u):=hrows i u hat
 have hci:v.c.ks[i]? =some u.k:=by rw[hN.eq,List.getElem?_map,hat];rfl
 obtain⟨U,hU⟩:∃U,aT u.k.ib=U:=⟨_,rfl⟩
 obtain⟨n,hn⟩:∃n,dD u.k.st.rcv U=n:=⟨_,rfl⟩
 rw[hx]
 refine aD ?_
 refine ap ?_
 (refine bQ J J J J J J ?_;intro g2)
 (refine br ae J J J J J J ?_;intro g4)
 repeat' (first|refine vx rfl (ia (m:=22) i hi) ?_|refine vx rfl (rj (cs:=KC u) hrow) ?_|(refine al ?_;intro g5)|refine nx ?_)
 rw[←hx]
 by_cases hcd:v.c.cl=true∨u.k.st.done=true
 · have hg:(if u.k.st.done=true then v.c else gbK v.c i u.k.st.id)=v.c:=by
    split
    · rfl
    · rename_i hd
      unfold gbK
      rw[if_pos (.inl (hcd.resolve_right hd))]
   refine af rfl (by rcases hcd with h|h<;>rw[h]<;>simp) ?_
   repeat' refine nx ?_
   (refine rt ?_;refine fun w1 hm=>⟨v,?_,rfl,OutN.same hN hm.below,hw⟩)
   rw[hg]
 have hcl:v.c.cl=false:=eq_false_of_ne_true fun h=>hcd (.inl h)
 have hd:u.k.st.done=false:=eq_false_of_ne_true fun h=>hcd (.inr h)
 have hub:=hun hd
 rw[hU]at hub
 have hU0:0≤U:=by rw[←hU];exact dX _
 have hbl:=jj hrv hU0 hub
 rw[hn]at hbl
 have hgn:rC v.c i=n:=by unfold rC;rw[cF hci,hU,hn]
 have hil:u.k.ib.length≤8796093022208:=by have:=gY u.k.ib;rw[hU]at this;omega
 refine aa rfl (by rw[hcl,hd];rfl) ?_
 repeat' (first|refine cl (fun w hm=>EA u U hU w (((hN.ok u hum).below hm.below).2.1) (by rw[hU];omega) hil) ?_|refine cd (fun w hm=>EA u U hU w (((hN.ok u hum).below hm.below).2.1) (by rw[hU];omega) hil) ?_|refine cl (fun w hm=>tZ u.k.st.rcv U n hn w hrv hU0 hub) ?_|refine cd (fun w hm=>tZ u.k.st.rcv U n hn w hrv hU0 hub) ?_|refine ny ?_|refine nx ?_)
 intro g6
 repeat' refine nx ?_
 by_cases h1:n<1
 · have hg:(if u.k.st.done=true then v.c else gbK v.c i u.k.st.id)=v.c:=by
    rw[if_neg (by rw[hd];simp)]
    unfold gbK
    rw[if_pos (.inr (by rw[hgn];omega))]
   refine af rfl (decide_eq_true h1) ?_
   repeat' refine nx ?_
   (refine rt ?_;refine fun w1 hm=>⟨v,?_,rfl,OutN.same hN hm.below,hw⟩)
   rw[hg]
 have hg:(if u.k.st.done=true then v.c else gbK v.c i u.k.st.id)={v.c with ks:=v.c.ks.set i ({u with k:={u.k with st:={u.k.st with rcv:=xO u.k.st.rcv n}}}:KV).k,ou:=v.c.ou++[(⟨6,u.k.st.id,n,emptyB⟩:aS)]}:=by
  rw[if_neg (by rw[hd];simp)]
  unfold gbK
  rw[if_neg (by rw[hgn,hcl];rintro(h|h);cases h;omega),hgn,bC hci]
 refine aa rfl (decide_eq_false h1) ?_
 repeat' refine nx ?_
 refine cT [false,true,false,true] (fun _=>True) ak (by kernel_rfl) J J (fun _ _=>trivial) ?_
 iterate 3 refine yv ?_
 refine iT [false,true,false,true] bd (fun w1 hm=>eB v i ({u with k:={u.k with st:={u.k.st with rcv:=xO u.k.st.rcv n}}}:KV) w1 (hN.lt.below hm.below) hw hi hkl (((hN.lt.ok u hum)).below hm.below|>fun h=>⟨h.1,h.2.1,h.2.2⟩) ⟨hwu.i,hwu.o,hwu.m,hwu.il,hwu.ol⟩) ?_
 rintro V1 F1 hc1 hw1 hF1
 iterate 5 refine yv ?_
 refine iT [false,false,true,false,true] (eS 0 hF1 rfl) (fun w1 hm=>eN V1 (⟨6,u.k.st.id,n,emptyB⟩:aS) w1 (hm.2.get (i:=0) rfl).2.1 hw1 (by rw[hc1];exact hol)) ?_
 rintro V2 F2 hc2 hw2 hF2
 refine lG ae 4 J J J J J J J J J J J J ?_
 repeat' refine nx ?_
 (refine rt ?_;refine fun w1 hm=>⟨V2,by rw[hc2,hc1,hg],rfl,aL (hm.2.get (i:=0) rfl).2.1 hF2 hm.below,hw2⟩)
end
end Go.Proofs.YthiocbcokfondaaGreatDoor.Y
