import Derived.Test.YthiocbcokfondaaGreatDoorJBunT
import Derived.Test.YthiocbcokfondaaGreatDoorJBunC20
import Derived.Test.YthiocbcokfondaaGreatDoorJSyw
import Derived.Test.YthiocbcokfondaaGreatDoorJBunY
import Derived.Lib.FrozenHead2
set_option maxRecDepth 100000
set_option maxHeartbeats 32000000
namespace Go.Proofs.YthiocbcokfondaaGreatDoor.Y
section
open Go.RowKit
attribute [local irreducible] Calls
theorem Aa{A:Nat→Prop}(v:NV)(id code:Int)(w:World)(hN:NOk A w v)(hz:rk v)(hgd:vp v)(hg:MLen w):Calls Tryz.prog 51 #[.agg #[.int .i64 v.c.sd,.int .i64 v.c.nx,.int .i64 v.c.la,.int .i64 v.c.aw,.int .i64 v.c.sz,.int .i64 v.c.sw.size,.int .i64 v.c.sw.left,.int .i64 v.c.sw.held,.int .i64 v.c.rw.size,.int .i64 v.c.rw.left,.int .i64 v.c.rw.held,.slice v.x v.kv.length v.xc,.slice v.o v.c.ou.length v.oc,.slice v.p v.c.pg.length v.pc,.bool v.c.cl],.int .i64 id,.int .i64 code] w fun e w'=> ∃v':NV,v'.c=(ga v.c id code).1∧e= .returned (.tuple #[.agg ⟨NC v'⟩,.int .i64 (ga v.c id code).2])∧OutN A w w' v':=by
 refine ai Tryz.func51 rfl Tryz.ntmps51 J J ?_
 have hzk:=hz.ks
 have hou:=hgd.ou
 have hez:emptyB.size<4294967281:=show(0:Nat)<4294967281 by decide
 obtain⟨o,ho⟩:∃o,bX id v.c.ks 0=o:=⟨_,rfl⟩
 repeat' (first|(refine bx ?_;intro g3)|(refine al ?_;intro g6)|refine cl (fun w hm=>qx v id o w (hN.below hm.below) (by omega) ho) ?_|refine nx ?_)
 cases o with
 |none=>
  have hrl:ga v.c id code=(v.c,10):=by unfold ga lO;rw[ho];rfl
  refine af J J ?_
  repeat' refine nx ?_
  (refine rt ?_;refine fun w1 hm=>⟨v,?_,?_,OutN.same hN hm.below⟩)
  · rw[hrl]
  · rw[hrl];rfl
 |some i=>
  obtain⟨q,hq,_⟩:=dR ho
  obtain⟨u,hu,huk⟩:∃u,v.kv[i]? =some u∧u.k=q:=by rw[hN.eq,List.getElem?_map]at hq;simpa using hq
  subst huk
  have hat:=gB hN.eq hu
  have hum:=List.mem_of_getElem? hu
  have htx:=hgd.tx u hum
  have hi:i<v.kv.length:=(List.getElem?_eq_some_iff.1 hu).1
  obtain⟨bb,boff,hx,_,_,hrows⟩:=hN.ks (by omega)
  have hrow:w.rangeAt bb (boff+i * 22) (tC u.k.st):=fun j x hj=>hrows i u hu j x (lF hj)
  obtain⟨r,hr⟩:∃r,aZ u.k.st (⟨5,id,code,emptyB⟩:aS)=r:=⟨_,rfl⟩
  have hce:lO v.c id code=r.err:=by unfold lO;rw[ho];dsimp only;rw[hat,hr]
  refine aa rfl (decide_eq_false (show¬ ((i:Nat):Int)<0 by omega)) ?_
  rw[hx]
  repeat' (first|refine vx rfl (ia (m:=22) i hi) ?_|refine vx rfl (rj (cs:=tC u.k.st) hrow) ?_|refine aF ak rfl (by kernel_rfl) ?_|(refine bO ?_;intro g)|(refine al ?_;intro g9)|((refine' cB rfl ?_ J J J ?_);rotate_left;first|exact mj ae (m:=22) i J J J J J J J J (fun _=>rfl) (fun _=>hi)|exact cO ae (cs:=tC u.k.st) J J J J J (fun _=>hrow)|exact ax ae J J J J|exact aM ae J J J J J J|exact ab ae 0 J J J J J|exact ab ae 2 J J J J J|exact aj ae J J ⟨J,J,J,trivial⟩ J J J)|refine aU rfl (ag J J J J ⟨J,J,trivial⟩ rfl (by kernel_rfl)) rfl (fun w hm=>qv u.k.st (⟨5,id,code,emptyB⟩:aS) r hr w htx hez (hg.below hm.below)) J J ?_|refine cg ae J J J J J J ?_|refine nx ?_)
  by_cases he:r.err=0
  rotate_left
  · have hrl:ga v.c id code=(v.c,r.err):=by unfold ga;rw[hce,if_pos he]
    refine af rfl (by simpa using he) ?_
    rw[←hx]
    repeat' refine nx ?_
    (refine rt ?_;refine fun w1 hm=>⟨v,?_,?_,OutN.same hN hm.below⟩)
    · rw[hrl]
    · rw[hrl];rfl
  have hci:v.c.ks[i]? =some u.k:=by rw[hN.eq,List.getElem?_map,hu];rfl
  have hrl:ga v.c id code=({v.c with ks:=v.c.ks.set i (dE {u.k with st:=r.st}),ou:=v.c.ou++[(⟨5,id,code,emptyB⟩:aS)]},0):=by
   unfold ga
   rw[hce,if_neg (fun h=>h he),ho]
   show(_,_)=_
   rw[show(some i).getD 0=i from rfl,bC hci,hr]
  rw[hrl]
  refine aa rfl (by simpa using he) ?_
  rw[←hx]
  repeat' refine nx ?_
  refine cM (σ:=NV) (fun s=>s.c=v.c∧s.kv.map (·.k)=v.kv.map (·.k)) (fun s=> .agg ⟨NC s⟩) (fun s=>EN s) rfl (ag J J J J ⟨J,trivial⟩ rfl (by kernel_rfl)) (fun w1 hm=>dW v w1 (hN.below hm.below) hz) J J ?_
  rintro⟨c1,x1,xc1,kv1,o1,oc1,p1,pc1⟩ ⟨hc1,hkm⟩
  dsimp only at hc1 hkm
  subst hc1
  dsimp only[EN,NC,List.cons_append,List.nil_append]
  refine df (fun w1 hm=>qP hm) (fun hFK=> ?_)
  refine bU (fun w1 hm=>kx hm) ?_
  have hlk:kv1.length=v.kv.length:=gN hkm
  obtain⟨u1,hu1,hu1k⟩:=mr hkm hu
  have hum1:=List.mem_of_getElem? hu1
  have hi1:i<kv1.length:=(List.getElem?_eq_some_iff.1 hu1).1
  refine jt 2 rfl (by omega) ?_
  rintro gx rfl
  repeat' (first|refine vx rfl (ia (m:=22) i hi1) ?_|(refine al ?_;intro g12)|refine nx ?_)
  refine cR ae 3 J J J J J J J J J (show jw _ (0+i * 22+0) _=_ from by rw[Nat.zero_add];exact cL aO (kv1) i 0 (u1) ({u1 with k:={u1.k with st:=r.st}}) _ hu1 rfl) J J ?_
  repeat' (first|refine vx rfl (ia (m:=22) i hi1) ?_|refine nx ?_)
  have hat1:(kv1.set i {u1 with k:={u1.k with st:=r.st}})[i]? =some {u1 with k:={u1.k with st:=r.st}}:=dG hu1 _
  refine bU (fun w1 hm=>hm.perm (List.perm_middle (l₁:=[_,_,_]))) ?_
  dsimp only[List.cons_append,List.nil_append]
  refine bL (σ:=Value) (fun _=>True) (fun r=>r) (fun _=>_) rfl (ag J J J J ⟨J,trivial⟩ rfl (by kernel_rfl)) (fun w hM=>(jQ gx xc1 kv1.length i (kv1.set i {u1 with k:={u1.k with st:=r.st}}) {u1 with k:={u1.k with st:=r.st}} hat1 w hM).mono fun e w' ⟨r,h1,h2,h3⟩=>⟨r,trivial,h2,h3⟩) J J ?_
  rintro rv -
  rw[List.set_set]
  repeat' (first|(refine cc ae J J J ⟨J,trivial⟩ J J J J J J J J ?_;intro g)|(refine bB ae 4 0 J J J J J J J J J (fun _ _=>rfl) fP J J (by unfold maxLen;omega) (by omega) J J ?_;intro sa sc)|refine nx ?_)
  (refine rt ?_;refine fun w1 hm=>⟨⟨{v.c with ks:=v.c.ks.set i (dE {u.k with st:=r.st}),ou:=v.c.ou++[(⟨5,id,code,emptyB⟩:aS)]},some ⟨gx,0,none⟩,xc1,kv1.set i (gM {u1 with k:={u1.k with st:=r.st}}),sa,sc,p1,pc1⟩,rfl,?_,?_⟩)
  · simp only[List.length_append,List.length_singleton,List.length_set]
  · refine gH hm.below (by rw[List.length_set];exact hm.2.get (i:=1) rfl) (tX (f:=(⟨5,id,code,emptyB⟩:aS)) (hm.2.get (i:=4) rfl) rfl) (hm.2.get (i:=3) rfl) ?_ (fun x hx=> ?_)
    · dsimp only
      rw[List.map_set,pw,hkm,hN.eq]
      dsimp only
      rw[hu1k]
    · have hall:=(hm.2.get (i:=5) rfl).2.1
      rcases fR hi1 hx with rfl|hx
      · obtain⟨h1,h2,h3⟩:=hall u1 hum1
        exact nC (KOk.mono ⟨h1,h2,h3⟩ hFK)
      · exact(hall x (List.mem_of_mem_eraseIdx hx)).mono hFK
end
section
open Go.RowKit
theorem sX{w0 w:World}{M M2:List Ent}{i g cap size k:Nat}{e:TypeId}{xs:List Value}(off:Nat)(news:List Value)(hM:Mem w0 w M)(hm:ez M i=some (.own (some ⟨g,0,none⟩) cap e size k xs))(hle:off+news.length≤k * size)(h9:eP M i (.own (some ⟨g,0,none⟩) cap e size k (xs.take off++news++xs.drop (off+news.length)))=some M2):
 ∃cur:Array Value,w.heap[g]? =some (.cells cur e (0,0))∧off+news.length≤cur.size∧Mem w0 (w.setRow g (cur.toList.take off++news++cur.toList.drop (off+news.length)).toArray) M2:=by
 have hok:w.ownsRow w0.heap.size e size (.slice (some ⟨g,0,none⟩) k cap) k xs:=hM.2.get hm
 obtain⟨hlen,hrest⟩:=hok
 rcases hrest with ⟨hv,_⟩|⟨g',cap',cur,hv,hB,hgw,hkc,hcm,hcs,htake⟩
 · simp at hv
 obtain⟨rfl,rfl⟩:g=g'∧cap=cap':=by simp only[Value.slice.injEq,Option.some.injEq,Addr.mk.injEq]at hv;exact⟨hv.1.1,hv.2.2⟩
 have hkl:k * size≤cur.toList.length:=by rw[Array.length_toList,hcs];exact Nat.mul_le_mul_right _ hkc
 have hsz:k * size≤cur.size:=by simpa using hkl
 refine⟨cur,hgw,by omega,hM.set (e':= .own (some ⟨g,0,none⟩) cap e size k (xs.take off++news++xs.drop (off+news.length))) hm h9 J J J (by simp[World.setRow]) (fun q _ hq=>setRow_other w g q _ hq) ⟨?_,.inr ⟨g,cap,_,rfl,hB,setRow_heap w g cur _ e (0,0) hgw,hkc,hcm,?_,?_⟩⟩ (fun _ hk=> .inl hk) (fun _ hk=> .inl hk)⟩
 · rw[List.length_append,List.length_append,List.length_take,List.length_drop];omega
 · have:(cur.toList.take off++news++cur.toList.drop (off+news.length)).length=cur.toList.length:=by rw[List.length_append,List.length_append,List.length_take,List.length_drop];omega
   simpa[hcs]using this
 · rw[←htake]
   show(cur.toList.take off++news++cur.toList.drop (off+news.length)).take (k * size)=_
   generalize k * size=m at *
   have h1:(cur.toList.take off++news).length=off+news.length:=by rw[List.length_append,List.length_take];omega
   rw[List.take_append,h1,List.take_of_length_le (by rw[h1];exact hle),List.take_take,Nat.min_eq_left (by omega),List.drop_take]
theorem Mem.shrink{w0 w:World}{M:List Ent}{g cap size k:Nat}{e:TypeId}{xs:List Value}(k':Nat)(hk:k'≤k)(h:Mem w0 w (.own (some ⟨g,0,none⟩) cap e size k xs::M)):Mem w0 w (.own (some ⟨g,0,none⟩) cap e size k' (xs.take (k' * size))::M):=by
 obtain⟨hb,ho,ha,hr⟩:=h
 refine⟨hb,?_,ha,hr⟩
 obtain⟨hlen,hrest⟩:=(show w.ownsRow w0.heap.size e size (.slice (some ⟨g,0,none⟩) k cap) k xs from ho)
 have hkk:k' * size≤k * size:=Nat.mul_le_mul_right _ hk
 rcases hrest with ⟨hv,_⟩|⟨g',cap',cur,hv,hB,hgw,hkc,hcm,hcs,htake⟩
 · simp at hv
 obtain⟨rfl,rfl⟩:g=g'∧cap=cap':=by simp only[Value.slice.injEq,Option.some.injEq,Addr.mk.injEq]at hv;exact⟨hv.1.1,hv.2.2⟩
 refine⟨by rw[List.length_take];omega,.inr ⟨g,cap,cur,rfl,hB,hgw,Nat.le_trans hk hkc,hcm,hcs,?_⟩⟩
 rw[←htake,List.take_take,Nat.min_eq_left hkk]
theorem rL(z:Array Value):Builtin.zeroCells z 1=z:=by
 unfold Builtin.zeroCells
 apply Array.ext
 · simp
 · intro i h1 h2
   simp only[Array.getElem_map,Array.getElem_range,Nat.mod_eq_of_lt h2]
   rw[getElem!_pos z i h2]
section
variable {P:Program}{T:eV}{Q:Exit→Act→World→Prop}{n:Nat}{w0:World}{S:co}{M M2:List Ent}{o:Oper}{l0 rest:List Oper}{d:Nat}{L L1 L2 L3 L4:Cd}
theorem Fu(hT:TOK P T){t e:TypeId}{x y1 y2 y3:Operand}{a:Option Addr}{k cap:Nat}{k1 k2 k3:IntKind}{i1 i2 i3:Int}(l h m:Nat){z:Value}{td:TD}(h1:o.op= .slice t x (some y1) (some y2) (some y3))
 (h2:ev S x=some (L1,.slice a k cap)) (h3:Suf L1 L) (e1:ev S y1=some (L2,.int k1 i1)) (s1:Suf L2 L) (e2:ev S y2=some (L3,.int k2 i2)) (s2:Suf L3 L) (e3:ev S y3=some (L4,.int k3 i3)) (s3:Suf L4 L) (h6:lk t T=some (.slc e z)) (h7:lk e T=some td)
 (q1:i1=(l:Int)) (q2:i2=(h:Int)) (q3:i3=(m:Int)) (hle:l≤h) (hhm:h≤m) (hmc:m≤cap):VO P w0 S M L o (.slice (if m=l then a else a.map (·.add (l * td.size))) (h-l) (m-l)):=by
 intro n ac w hS hM hL
 subst q1 q2 q3
 obtain⟨i,hi',hs,_⟩:=ct (hT.get h7)
 have hu:=el (hT.get h6)
 unfold execOp
 simp only[h1,az hS h2 (h3.holds hL),Option.map,az hS e1 (s1.holds hL),az hS e2 (s2.holds hL),az hS e3 (s3.holds hL)]
 simp[Instr.sliceAt,Instr.slice,Instr.sliceBounds,Sem.run_bind,run_underlying hu,run_sliceBound,sizeOf,typeInfo,hi',hs,hle,hhm,hmc]
 cases a<;>rfl
theorem DX(hT:TOK P T)(i:Nat){s x:Operand}{t e:TypeId}{z:Value}{td:TD}{g cap k j m c:Nat}{a2:Option Addr}{xs news:List Value}(h1:o.op= .call ⟨.builtin .append, #[s,x], #[t,t]⟩)(hg:o.guard=none)
 (h2:ev S s=some ([],.slice (some ⟨g,0,none⟩) j cap)) (h3:ev S x=some ([],.slice a2 m c)) (h4:lk t T=some (.slc e z)) (h5:lk e T=some td)
 (hi:ez M i=some (.own (some ⟨g,0,none⟩) cap e td.size k xs)) (hnews:∃ad,a2=some ad∧ ∀w,Mem w0 w M→ ∀q u,news[q]? =some u→w.cell? (ad.add q)=some u) (h7:∀u∈news,u.oneCell'=true) (hlen:news.length=m * td.size) (hroom:j+m≤k) (hcap:k≤cap)
 (h9:eP M i (.own (some ⟨g,0,none⟩) cap e td.size k (xs.take (j * td.size)++news++xs.drop (j * td.size+news.length)))=some M2)
 (hd:o.dst=some d) (hn:Nat.blt d n=true) (h:SL P l0 Q rest n w0 ((d,[],.slice (some ⟨g,0,none⟩) (j+m) cap)::S) M2):SL P l0 Q (o::rest) n w0 S M:=by
 have hdn:d<n:=Nat.le_of_ble_eq_true hn
 obtain⟨ad,rfl,hnews⟩:=hnews
 refine dz (L:=[]) (by rw[hg];rfl) (fun hL ac w hS hM=> ?_) (fun hL=>by cases hL)
 have hu:=el (hT.get h4)
 obtain⟨inf,hinf,hs,hz⟩:=ct (hT.get h5)
 have hfit:j * td.size+news.length≤k * td.size:=by rw[hlen,←Nat.add_mul];exact Nat.mul_le_mul_right _ hroom
 obtain⟨cur,hgw,hcl,hM2⟩:=sX (j * td.size) news hM hi hfit h9
 have hr:=run_append_roomF (P:=P) w t o.type e inf hu hinf g j cap cur (0,0) hgw (Nat.zero_le _) ad m c news (by rw[hs];exact hlen) (hnews w hM) h7 (Nat.le_trans hroom hcap) (by rw[hs];exact hcl)
 rw[hs]at hr
 have hrun:(execOp ac.eval o).run P w= .ok (.value (.slice (some ⟨g,0,none⟩) (j+m) cap)) (w.setRow g (cur.toList.take (j * td.size)++news++cur.toList.drop (j * td.size+news.length)).toArray):=by
  unfold execOp
  simp only[h1,resolve,invoke,builtin,Sem.run_bind,Sem.run_pure,Result.andThen_ok,List.map_toArray,List.map_cons,List.map_nil,az hS h2 rfl,az hS h3 rfl,hr]
 refine cr hrun (h.run _ _ ?_ hM2)
 rw[hd];exact hS.put hdn (by simp[aJ])
theorem Ab(hT:TOK P T)(i:Nat){s:Operand}{t e:TypeId}{z:Value}{td:TD}{g cap k off c:Nat}{a2:Option Addr}{xs zs:List Value}(h1:o.op= .call ⟨.builtin .clear, #[s], #[t]⟩)(hg:o.guard=none)
 (h2:ev S s=some ([],.slice a2 1 c)) (ha:a2=some ⟨g,off,none⟩) (h4:lk t T=some (.slc e z)) (h5:lk e T=some td) (h6:kC td=some zs) (h7:fu zs=true)
 (hi:ez M i=some (.own (some ⟨g,0,none⟩) cap e td.size k xs)) (hle:off+zs.length≤k * td.size)
 (h9:eP M i (.own (some ⟨g,0,none⟩) cap e td.size k (xs.take off++zs++xs.drop (off+zs.length)))=some M2)
 (hd:o.dst=none) (h:SL P l0 Q rest n w0 S M2):SL P l0 Q (o::rest) n w0 S M:=by
 subst ha
 refine dz (L:=[]) (by rw[hg];rfl) (fun hL ac w hS hM=> ?_) (fun hL=>by cases hL)
 have hu:=el (hT.get h4)
 obtain⟨inf,hinf,hs,hz⟩:=ct (hT.get h5)
 obtain⟨cur,hgw,hcl,hM2⟩:=sX off zs hM hi hle h9
 have hzc:(Builtin.zeroCells td.zeroV.cells 1).toList=zs:=by rw[rL,kQ h6]
 have hv:(zeroValue e).run P w= .ok td.zeroV w:=iu hinf hz w
 have hst:=run_storeCells_at (P:=P) g off e zs 0 cur w hgw (by simpa using hcl) (dY h7)
 simp only[Nat.add_zero]at hst
 have hrun:(execOp ac.eval o).run P w= .ok (.value (.tuple #[])) (w.setRow g (cur.toList.take off++zs++cur.toList.drop (off+zs.length)).toArray):=by
  unfold execOp
  simp only[h1,resolve,invoke,builtin,Sem.run_bind,Sem.run_pure,Result.andThen_ok,List.map_toArray,List.map_cons,List.map_nil,az hS h2 rfl]
  simp[Builtin.clear_,run_underlying hu,hv,hzc,hst,Sem.run_bind]
 refine cr hrun (h.run _ _ ?_ hM2)
 rw[hd];exact hS
end
end
section
open Go.RowKit
theorem oE{α:Type}{f:α→List Value}{sz:Nat}(hf:∀x,(f x).length=sz):∀ (l:List α) (i:Nat),(l.flatMap f).take (i * sz)=(l.take i).flatMap f
 | [],i=>by simp
 |a::l,0=>by simp
 |a::l,i+1=>by
  rw[List.flatMap_cons,List.take_append,List.take_succ_cons,List.flatMap_cons,hf a,Nat.succ_mul,Nat.add_sub_cancel,oE hf l i,List.take_of_length_le (by rw[hf a];omega)]
theorem jW:∀ (l:List KV),(l.flatMap KC).length=l.length * 22
 | []=>by simp
 |a::l=>by rw[List.flatMap_cons,List.length_append,aO a,jW l,List.length_cons,Nat.succ_mul,Nat.add_comm]
theorem xr(l:List KV)(i:Nat)(hi:i≤l.length):(l.flatMap KC).drop (i * 22)=(l.drop i).flatMap KC:=by
 have h:l.flatMap KC=(l.take i).flatMap KC++(l.drop i).flatMap KC:=by rw[←List.flatMap_append,List.take_append_drop]
 rw[h]
 have hl:((l.take i).flatMap KC).length=i * 22:=by rw[jW,List.length_take,Nat.min_eq_left hi]
 rw[←hl,List.drop_left]
theorem GD(g k:Nat):(⟨g,0,none⟩:Addr).add k=⟨g,k,none⟩:=by rw[Addr.add_lit,Nat.zero_add]
theorem Im(g i c:Nat):Value.slice (if c=0 then some ⟨g,0,none⟩else(some (⟨g,0,none⟩:Addr)).map (·.add (0 * 22))) (i-0) (c-0)= .slice (some ⟨g,0,none⟩) i c:=by
 rw[Nat.sub_zero,Nat.sub_zero]
 split
 · rfl
 · rw[Nat.zero_mul]
   show Value.slice (some ((⟨g,0,none⟩:Addr).add 0)) i c=_
   rw[Addr.add_lit]
theorem xt(kv:List KV)(i:Nat)(hi:i<kv.length)(B zs C:List Value):((((kv.flatMap KC).take (i * 22)++(kv.drop (i+1)).flatMap KC++B).take ((kv.length-1) * 22)++zs++C).take ((kv.length-1) * 22))=(kv.eraseIdx i).flatMap KC:=by
 have hA:((kv.flatMap KC).take (i * 22)++(kv.drop (i+1)).flatMap KC).length=(kv.length-1) * 22:=by
  rw[oE aO,List.length_append,jW,jW,List.length_take,List.length_drop]
  omega
 rw[←hA,List.take_left,List.append_assoc,List.take_left,oE aO,List.eraseIdx_eq_take_drop_succ,List.flatMap_append]
theorem GE(a b c d:Ent)(R:List Ent):(a::b::c::d::R).Perm (d::b::a::c::R):=(List.perm_middle (l₁:=[a,b,c]) (a:=d) (l₂:=R)).trans (List.Perm.cons d (List.Perm.swap b a (c::R)))
theorem kz(u:KV):∀x∈KC u,x.oneCell'=true:=dY rfl
attribute [local irreducible] Calls
theorem CB{w0:World}{M:List Ent}(gx xc:Nat)(kv:List KV)(i:Nat)(hi:i<kv.length)(hz:kv.length≤606626243774)(w:World)(hM:Mem w0 w (.own (some ⟨gx,0,none⟩) xc 39 22 kv.length (kv.flatMap KC)::M)):Calls Tryz.prog 109 #[.slice (some ⟨gx,0,none⟩) kv.length xc,.int .i64 ((i:Nat):Int),.int .i64 (((i:Nat):Int)+1)] w fun e w'=>e= .returned (.slice (some ⟨gx,0,none⟩) (kv.length-1) xc)∧Mem w0 w' (.own (some ⟨gx,0,none⟩) xc 39 22 (kv.length-1) ((kv.eraseIdx i).flatMap KC)::M):=by
 have hcap:kv.length≤xc:=fo (hM.2.get (i:=0) rfl)
 have hi1:(((i:Nat):Int)+1)=((i+1:Nat):Int):=by omega
 rw[hi1]
 refine cz hM Tryz.func109 rfl Tryz.ntmps109 J J ?_
 repeat' (first|refine vx rfl (Fu ae i (i+1) kv.length J J J J J J J J J J J J J J (by omega) (by omega) hcap) ?_|refine nx ?_)
 refine aa rfl (show(((i:Nat):Int)==((i+1:Nat):Int))=false by simp;omega) ?_
 repeat' (first|refine vx rfl (qi (v:= .slice (some ⟨gx,0,none⟩) i xc) (dQ ae 0 i J J J J J J J J J J J (by omega) (by omega)) (Im gx i xc)) ?_|refine vx rfl (dQ ae (i+1) kv.length J J J J J J J J J J J (by omega) hcap) ?_|refine aF ak rfl (by kernel_rfl) ?_|refine bD ?_|((refine' cB rfl ?_ J J J ?_);rotate_left;first|exact qi (v:= .slice (some ⟨gx,0,none⟩) i xc) (dQ ae 0 i J J J J J J J J J J J (by omega) (by omega)) (Im gx i xc)|exact dQ ae (i+1) kv.length J J J J J J J J J J J (by omega) hcap|exact ax ae J J J J|exact dv ae J J J J J J J)|refine nx ?_)
 refine DX ae 0 (news:=(kv.drop (i+1)).flatMap KC) J J J J J J J ?_ ?_ ?_ ?_ hcap J J J ?_
 · by_cases hc:xc=i+1
   · refine⟨⟨gx,0,none⟩,by rw[if_pos hc],fun w1 hM1 q u hq=> ?_⟩
     rw[List.drop_of_length_le (by omega)]at hq
     cases hq
   · refine⟨⟨gx,(i+1) * 22,none⟩,by rw[if_neg hc];exact congrArg some (GD gx ((i+1) * 22)),fun w1 hM1 q u hq=> ?_⟩
     rw[Addr.add_lit]
     refine iH (hM1.2.get (i:=0) rfl) ?_
     rw[←xr kv (i+1) (by omega),List.getElem?_drop]at hq
     exact hq
 · intro u hu
   obtain⟨x,_,hx⟩:=List.mem_flatMap.1 hu
   exact kz x u hx
 · exact(jW _).trans (congrArg (· * 22) List.length_drop)
 · omega
 rw[show i+(kv.length - (i+1))=kv.length-1 by omega]
 repeat' (first|refine vx rfl (qi (v:= .slice (some ⟨gx,(kv.length-1) * 22,none⟩) 1 (xc - (kv.length-1))) (dQ ae (kv.length-1) kv.length J J J J J J J J J J J (by omega) hcap) (by rw[if_neg (by omega),show kv.length - (kv.length-1)=1 by omega];exact congrArg (fun a=>Value.slice a 1 (xc - (kv.length-1))) (congrArg some (GD gx ((kv.length-1) * 22))))) ?_|refine nx ?_)
 refine Ab ae 0 J J J J J J J J J (show(kv.length-1) * 22+22≤kv.length * 22 by omega) J J ?_
 refine bU (M':= .own (some ⟨gx,0,none⟩) xc 39 22 (kv.length-1) ((kv.eraseIdx i).flatMap KC)::M) (fun w1 hm=> ?_) ?_
 · exact Eq.mp (congrArg (fun l=>Mem w0 w1 (.own (some ⟨gx,0,none⟩) xc 39 22 (kv.length-1) (l)::M)) (xt kv i hi _ _ _)) (hm.shrink (kv.length-1) (by omega))
 repeat' refine nx ?_
 (refine rt ?_;refine fun w1 hm=> ?_)
 exact⟨rfl,hm⟩
theorem Ac{A:Nat→Prop}(v:NV)(id:Int)(w:World)(hN:NOk A w v)(hv:VN v.c)(hms:aX v.c≤500000000):Calls Tryz.prog 54 #[.agg ⟨NC v⟩,.int .i64 id] w fun e w'=> ∃v':NV,v'.c=fH v.c id∧e= .returned (.agg ⟨NC v'⟩)∧OutN A w w' v':=by
 refine ai Tryz.func54 rfl Tryz.ntmps54 J J ?_
 have hz:=(hv.toVB.szl hms).n hN
 have hzk:=hz.ks
 have hoz:v.c.ou.length≤2000000000:=Nat.le_trans ((hv.toVB.szl hms)).ou.1 (by decide)
 obtain⟨o,ho⟩:∃o,bX id v.c.ks 0=o:=⟨_,rfl⟩
 repeat' (first|(refine bx ?_;intro g2)|(refine al ?_;intro g4)|refine nx ?_)
 refine cM (σ:=NV) (fun s=>s.c=v.c∧s.kv.map (·.k)=v.kv.map (·.k)) (fun s=> .agg ⟨NC s⟩) (fun s=>EN s) rfl (ag J J J J ⟨J,trivial⟩ rfl (by kernel_rfl)) (fun w1 hm=>dW v w1 (hN.below hm.below) hz) J J ?_
 rintro⟨c1,x1,xc1,kv1,o1,oc1,p1,pc1⟩ ⟨hc1,hkm⟩
 dsimp only at hc1 hkm
 subst hc1
 dsimp only[EN,NC,List.cons_append,List.nil_append]
 refine df (fun w1 hm=>qP hm) (fun hFK=> ?_)
 refine bU (fun w1 hm=>kx hm) ?_
 have hlk:kv1.length=v.kv.length:=gN hkm
 have ho1:bX id (kv1.map (·.k)) 0=o:=by rw[hkm,←hN.eq];exact ho
 repeat' (first|(refine al ?_;intro g5)|refine cl (fun w hm=>qx (⟨{v.c with ks:=kv1.map (·.k)},x1,xc1,kv1,o1,oc1,p1,pc1⟩:NV) id o w (iS (hm.2.get (i:=3) rfl) (hm.2.get (i:=2) rfl) (hm.2.get (i:=1) rfl) rfl (hm.2.get (i:=4) rfl).2.1) (show kv1.length≤606626243774 by omega) ho1) ?_|refine nx ?_)
 cases o with
 |none=>
  have hrl:fH v.c id=v.c:=by unfold fH;rw[ho]
  rw[hrl]
  repeat' (first|refine vx rfl (pq J J) ?_|refine vx rfl (pj (.bool false) J J) ?_|refine dx ?_)
  refine af J J ?_
  repeat' refine nx ?_
  (refine rt ?_;refine fun w1 hm=>⟨⟨v.c,x1,xc1,kv1,o1,oc1,p1,pc1⟩,rfl,rfl,gH hm.below (hm.2.get (i:=3) rfl) (hm.2.get (i:=2) rfl) (hm.2.get (i:=1) rfl) (by rw[hkm,hN.eq]) (fun u hu=>((hm.2.get (i:=4) rfl).2.1 u hu).mono hFK)⟩)
 |some i=>
  obtain⟨q,hq,_⟩:=dR ho1
  obtain⟨u,hu,huk⟩:∃u,kv1[i]? =some u∧u.k=q:=by rw[List.getElem?_map]at hq;simpa using hq
  subst huk
  have hi1:i<kv1.length:=(List.getElem?_eq_some_iff.1 hu).1
  have hci:v.c.ks[i]? =some u.k:=by rw[hN.eq,←hkm,List.getElem?_map,hu];rfl
  have hat:iU v.c i=u.k:=cF hci
  refine jt 3 rfl (by omega) ?_
  rintro gx rfl
  dsimp only[DH]
  repeat' (first|refine vx rfl (ia (m:=22) i hi1) ?_|refine dx ?_)
  refine vx rfl (cw ae 3 (v:= .bool u.k.st.done) J J J J J J (fun _=>by rw[Nat.zero_add];exact bc aO hu (k:=7) rfl)) ?_
  repeat' refine dx ?_
  by_cases hd:u.k.st.done=true
  rotate_left
  · have hrl:fH v.c id=v.c:=by unfold fH;rw[ho];dsimp only;rw[hat,if_pos (eq_false_of_ne_true hd)]
    rw[hrl]
    refine af rfl (by rw[eq_false_of_ne_true hd];simp) ?_
    repeat' refine nx ?_
    (refine rt ?_;refine fun w1 hm=>⟨⟨v.c,some ⟨gx,0,none⟩,xc1,kv1,o1,oc1,p1,pc1⟩,rfl,rfl,gH hm.below (hm.2.get (i:=3) rfl) (hm.2.get (i:=2) rfl) (hm.2.get (i:=1) rfl) (by rw[hkm,hN.eq]) (fun u hu=>((hm.2.get (i:=4) rfl).2.1 u hu).mono hFK)⟩)
  have hrl:fH v.c id=gbC {v.c with ks:=v.c.ks.eraseIdx i}:=by unfold fH;rw[ho];dsimp only;rw[hat,if_neg (by rw[hd];simp)]
  rw[hrl]
  refine aa rfl (by rw[hd];show(decide (((i:Nat):Int)<0)||false)=false;rw[decide_eq_false (by omega)];rfl) ?_
  repeat' (first|refine vx rfl (bm J J J J J (by omega)) ?_|refine nx ?_)
  refine bU (fun w1 hm=>hm.perm (List.perm_middle (l₁:=[_,_,_]))) ?_
  dsimp only[List.cons_append,List.nil_append]
  refine bL (σ:=Unit) (fun _=>True) (fun _=> .slice (some ⟨gx,0,none⟩) (kv1.length-1) xc1) (fun _=>_) rfl (ag J J J J ⟨J,J,J,trivial⟩ rfl (by kernel_rfl)) (fun w1 hM=>(CB gx xc1 kv1 i hi1 (by omega) w1 hM).mono fun e w' ⟨h1,h2⟩=>⟨(),trivial,h1,h2⟩) J J ?_
  rintro _ -
  obtain⟨kv2,hkv2⟩:∃l,kv1.eraseIdx i=l:=⟨_,rfl⟩
  have hl2:kv1.length-1=kv2.length:=by rw[←hkv2,List.length_eraseIdx,if_pos hi1]
  have hks2:kv2.map (·.k)=v.c.ks.eraseIdx i:=by rw[←hkv2,lC,hkm,hN.eq]
  have hsub:∀x∈kv2,x∈kv1:=fun x hx=>by rw[←hkv2]at hx;exact List.mem_of_mem_eraseIdx hx
  rw[hl2,hkv2]
  repeat' refine nx ?_
  have htot:ba (kv2.map (·.k))≤v.c.rw.held:=by
   rw[hks2,ku hci]
   have:=hv.tt
   have:=dX u.k.ib
   omega
  have hzx:∀x∈kv2,x.k.ib.length≤8796093022208:=fun x hx=>by
   have h1:=gY x.k.ib
   have h2:aT x.k.ib≤ba (kv2.map (·.k)):=gA (List.mem_map_of_mem hx)
   have h3:=(aW.1 hv.rw)
   omega
  obtain⟨T,hT⟩:∃T,ba (kv2.map (·.k))=T:=⟨_,rfl⟩
  have hT0:0≤T:=by rw[←hT];exact ep _
  have hT1:T≤v.c.rw.held:=by rw[←hT];exact htot
  have hT2:ba (kv2.map (·.k))≤4611686018427387904:=by have h3:=(aW.1 hv.rw);omega
  refine aH rfl (ag J J J J ⟨J,trivial⟩ rfl (by kernel_rfl)) (fun w1 hm=>oX (⟨{v.c with ks:=kv2.map (·.k)},some ⟨gx,0,none⟩,xc1,kv2,o1,oc1,p1,pc1⟩:NV) T hT w1 (iS (hm.2.get (i:=0) rfl) (hm.2.get (i:=3) rfl) (hm.2.get (i:=2) rfl) rfl (fun x hx=>(hm.2.get (i:=4) rfl).2.1 x (hsub x hx))) (show kv2.length≤606626243774 by omega) hT2 hzx) J J ?_
  refine bL (σ:=Value×Option Addr×Nat) (fun _=>True) (fun s=>s.1) (fun s=>_) rfl (ag J J J J ⟨J,J,J,J,trivial⟩ rfl (by kernel_rfl)) (fun w1 hM=>(jU g5 _ _ _ _ _ _ _ _ _ _ v.c.cl v.c.rw o1 oc1 v.c.ou 0 T w1 hv.rw hT0 hT1 hoz (hM.perm (GE _ _ _ _ _))).mono fun e w' ⟨s,h1,h2,h3⟩=>⟨s,h1,h2,h3⟩) J J ?_
  rintro⟨rv,ta,tc⟩ -
  have hcx:gbC {v.c with ks:=v.c.ks.eraseIdx i}={v.c with rw:=gg v.c.cl v.c.rw T,ks:=kv2.map (·.k),ou:=fm v.c.cl v.c.rw T 0 v.c.ou}:=by rw[iz,←hks2];dsimp only;rw[hT]
  repeat' refine nx ?_
  (refine rt ?_;refine fun w1 hm=>⟨⟨gbC {v.c with ks:=v.c.ks.eraseIdx i},some ⟨gx,0,none⟩,xc1,kv2,ta,tc,p1,pc1⟩,rfl,?_,?_⟩)
  · rw[hcx]
  · refine gH hm.below (hm.2.get (i:=2) rfl) ?_ ?_ ?_ (fun x hx=>((hm.2.get (i:=4) rfl).2.1 x (hsub x hx)).mono hFK)
    · rw[hcx];exact hm.2.get (i:=0) rfl
    · rw[hcx];exact hm.2.get (i:=3) rfl
    · rw[hcx]
end
end Go.Proofs.YthiocbcokfondaaGreatDoor.Y
