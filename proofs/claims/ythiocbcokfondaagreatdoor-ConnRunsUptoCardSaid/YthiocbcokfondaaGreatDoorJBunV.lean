import Derived.Lib.Hide
import Derived.Test.YthiocbcokfondaaGreatDoorChecked
import Derived.WalkKit
import Derived.WalkSpells
import Derived.WalkLawsBesides
import Derived.Below
import Derived.OwnWalk
import Derived.Laws.AppendOwn
import Derived.Maps.AppendAt
import Derived.Laws.BitsAllLaws
set_option maxRecDepth 100000
set_option maxHeartbeats 32000000
namespace Go.Proofs.YthiocbcokfondaaGreatDoor
section
open Go
def gj:Nat→Nat→List UInt8
 |0,u=>[UInt8.ofNat u]
 |n+1,u=>if 128≤u then UInt8.ofNat (u % 128+128)::gj n (u / 128)else[UInt8.ofNat u]
def bp(u:Nat):List UInt8:=gj 9 u
def cK:Nat→List UInt8→Nat→Nat→Nat×Nat×Int
 |0,_,_,_=>(0,0,6)
 |_+1,[],_,_=>(0,0,4)
 |k+1,c::l,n,u=>
  if k=0∧1<c.toNat then(0,0,6)
  else if c.toNat<128 then(u+c.toNat % 128 * 128 ^ n,n+1,0)
  else cK k l (n+1) (u+c.toNat % 128 * 128 ^ n)
def gZ(l:List UInt8):Nat×Nat×Int:=cK 10 l 0 0
theorem ug:∀n u,1≤(gj n u).length∧(gj n u).length≤n+1
 |0,_=>by simp[gj]
 |n+1,u=>by
  unfold gj;split
  · have:=ug n (u / 128);simp only[List.length_cons];omega
  · simp
theorem cq(u:Nat):1≤(bp u).length∧(bp u).length≤10:=ug 9 u
theorem eY(n:Nat):128 ^ (n+1)=128 * 128 ^ n:=by rw[Nat.pow_succ,Nat.mul_comm]
theorem fL:∀ (k:Nat) (l:List UInt8) (n a u m:Nat),cK k l n a=(u,m,0)→n<m∧m≤n+k∧m-n≤l.length
 |0,_,_,_,_,_,h=>by simp[cK]at h
 |_+1,[],_,_,_,_,h=>by simp[cK]at h
 |k+1,c::l,n,a,u,m,h=>by
  unfold cK at h
  split at h
  · simp at h
  · split at h
    · simp only[Prod.mk.injEq]at h;simp only[List.length_cons];omega
    · have:=fL k l (n+1) _ u m h;simp only[List.length_cons];omega
theorem mB{l:List UInt8}{u m:Nat}(h:gZ l=(u,m,0)):0<m∧m≤10∧m≤l.length:=by
 have:=fL 10 l 0 0 u m h;omega
theorem mD:∀ (k:Nat) (l:List UInt8) (n a:Nat),(cK k l n a).2.2=0∨cK k l n a=(0,0,4)∨cK k l n a=(0,0,6)
 |0,_,_,_=> .inr (.inr rfl)
 |_+1,[],_,_=> .inr (.inl rfl)
 |k+1,c::l,n,a=>by
  unfold cK
  split
  · exact .inr (.inr rfl)
  · split
    · exact .inl rfl
    · exact mD k l _ _
theorem nO(l:List UInt8):(gZ l).2.2=0∨gZ l=(0,0,4)∨gZ l=(0,0,6):=mD 10 l 0 0
theorem pH(n:Nat):0<128 ^ n:=Nat.pow_pos (by decide)
theorem uh:∀ (k:Nat) (l:List UInt8) (n a u m:Nat),cK k l n a=(u,m,0)→cK k (l.take (m-n)) n a=(u,m,0)
 |0,_,_,_,_,_,h=>by simp[cK]at h
 |_+1,[],_,_,_,_,h=>by simp[cK]at h
 |k+1,c::l,n,a,u,m,h=>by
  have hm:=fL (k+1) (c::l) n a u m h
  obtain⟨j,hj⟩:∃j,m-n=j+1:=⟨m-n-1,by omega⟩
  rw[hj,List.take_succ_cons,cK]
  unfold cK at h
  split at h
  · simp at h
  · rename_i h1
    rw[if_neg h1]
    split at h
    · rename_i h2;rw[if_pos h2];exact h
    · rename_i h2
      rw[if_neg h2]
      have:=uh k l (n+1) _ u m h
      rw[show m - (n+1)=j by omega]at this
      exact this
theorem uj:∀ (k:Nat) (l:List UInt8) (n a u m:Nat),a<128 ^ n→cK (k+1) l n a=(a+u * 128 ^ n,m,0)→m-n=(gj k u).length→gj k u=l.take (m-n)
 |_,[],_,_,_,_,_,h,_=>by simp[cK]at h
 |0,c::l,n,a,u,m,_,h,hl=>by
  have hm:=fL 1 (c::l) n a _ m h
  have hm1:m-n=1:=by omega
  rw[hm1,List.take_succ_cons,List.take_zero]
  unfold cK at h
  split at h
  · simp at h
  · rename_i h1
    have h1':¬1<c.toNat:=fun x=>h1 ⟨rfl,x⟩
    rw[if_pos (show c.toNat<128 by omega)]at h
    simp only[Prod.mk.injEq]at h
    have hp:=pH n
    have:c.toNat=u:=by
     have h2:c.toNat % 128 * 128 ^ n=u * 128 ^ n:=by omega
     have h3:=Nat.eq_of_mul_eq_mul_right hp h2
     omega
    simp only[gj]
    rw[←this,UInt8.ofNat_toNat]
 |k+1,c::l,n,a,u,m,ha,h,hl=>by
  have hm:=fL (k+2) (c::l) n a _ m h
  have hp:=pH n
  have hcl:=c.toNat_lt
  obtain⟨j,hj⟩:∃j,m-n=j+1:=⟨m-n-1,by omega⟩
  unfold cK at h
  rw[if_neg (show¬ (k+1=0∧1<c.toNat)by omega)]at h
  split at h
  · rename_i h2
    simp only[Prod.mk.injEq]at h
    have hm1:m-n=1:=by omega
    have h3:c.toNat % 128=u:=Nat.eq_of_mul_eq_mul_right hp (show c.toNat % 128 * 128 ^ n=u * 128 ^ n by omega)
    rw[hm1,List.take_succ_cons,List.take_zero,gj,if_neg (show¬128≤u by omega),←h3,Nat.mod_eq_of_lt h2,UInt8.ofNat_toNat]
  · rename_i h2
    have ho:=fL (k+1) l (n+1) _ _ m h
    by_cases hu:128≤u
    · have hge:c.toNat % 128=u % 128:=by
       have hz:∃v,a+u * 128 ^ n=(a+c.toNat % 128 * 128 ^ n)+v * 128 ^ (n+1):=by
        have hx:∀ (k:Nat) (l:List UInt8) (n a u m:Nat),cK k l n a=(u,m,0)→ ∃v,u=a+v * 128 ^ n:=by
         intro k
         induction k with
         |zero=>intro l n a u m h;simp[cK]at h
         |succ k ih=>
          intro l n a u m h
          cases l with
          |nil=>simp[cK]at h
          |cons c l=>
           unfold cK at h
           split at h
           · simp at h
           · split at h
             · simp only[Prod.mk.injEq]at h;exact⟨_,h.1.symm⟩
             · obtain⟨v,hv⟩:=ih _ _ _ _ _ h
               refine⟨c.toNat % 128+v * 128,?_⟩
               rw[hv,eY,Nat.add_mul,Nat.mul_assoc,Nat.add_assoc]
        exact hx _ _ _ _ _ _ h
       obtain⟨v,hv⟩:=hz
       rw[eY,←Nat.mul_assoc,Nat.add_assoc,←Nat.add_mul]at hv
       have:=Nat.eq_of_mul_eq_mul_right hp (show u * 128 ^ n=(c.toNat % 128+v * 128) * 128 ^ n by omega)
       omega
      have e1:a+u * 128 ^ n=(a+c.toNat % 128 * 128 ^ n)+(u / 128) * 128 ^ (n+1):=by
       rw[eY,←Nat.mul_assoc,Nat.add_assoc,←Nat.add_mul]
       congr 2;omega
      rw[e1]at h
      rw[gj,if_pos hu]at hl ⊢
      simp only[List.length_cons]at hl
      have ih := uj k l (n + 1) _ (u / 128) m (by
       rw[eY]
       have:c.toNat % 128 * 128 ^ n≤127 * 128 ^ n:=Nat.mul_le_mul_right _ (by omega)
       omega) h (by omega)
      rw[hj,List.take_succ_cons,ih,show m - (n+1)=j by omega,←hge]
      congr 1
      rw[show c.toNat % 128+128=c.toNat by omega,UInt8.ofNat_toNat]
    · rw[gj,if_neg hu]at hl
      simp only[List.length_cons,List.length_nil]at hl
      omega
theorem yC{l:List UInt8}{u m:Nat}(h:gZ l=(u,m,0))(hl:m=(bp u).length):bp u=l.take m:=by
 unfold gZ at h
 unfold bp at *
 have:=uj 9 l 0 0 u m (by simp) (by rw[h];simp) (by rw[hl];rfl)
 rw[Nat.sub_zero]at this
 exact this
end
section
open Go.RowKit
def eU(l:List UInt8):List Value:=l.map fun b=> .int .u8 (b.toNat:Int)
theorem gJ(l:List UInt8)(b:UInt8):eU (l++[b])=eU l++[.int .u8 (b.toNat:Int)]:=by simp[eU]
theorem AR:(Tryz.prog.info? 5).map (fun i=>(i.zero,i.size,i.bytes))=some (some (.int .u8 0),1,1):=by kernel_rfl
theorem ul(W:World)(base:Nat)(v:Value)(l:List UInt8)(h0:l≠ [])(h:W.ownsRow base 5 1 v l.length (eU l)):
 (convert 125 9 v).run Tryz.prog W= .ok (.string ⟨l.toArray⟩) W:=by
 obtain⟨h1,h2|⟨g,cap,cur,rfl,hb,hg,hn,hm,hsz,htake⟩⟩:=h
 · exact absurd (List.length_eq_zero_iff.1 h2.2) h0
 · refine run_convert_bytes_back _ _ _ _ _ _ l Tryz.underlying125 Tryz.underlying5 Tryz.underlying9 fun j hj=> ?_
   have:=World.ownsRow.cells (w:=W) (base:=base) (e:=5) (size:=1) (v:= .slice (some ⟨g,0,none⟩) l.length cap) (n:=l.length) (xs:=eU l) ⟨h1,.inr ⟨g,cap,cur,rfl,hb,hg,hn,hm,hsz,htake⟩⟩ (g:=g) rfl j (.int .u8 (l[j].toNat:Int)) (by simp[eU,List.getElem?_eq_getElem hj])
   exact this
end
section
open Go.RowKit
theorem fD{a b:ByteArray}(h:a=b):Ending.returned (.string a)= .returned (.string b):=by rw[h]
theorem bh{k:IntKind}{a b:Int}(h:a=b):Ending.returned (.int k a)= .returned (.int k b):=by rw[h]
theorem FM:∀x:Fin 256,x.1|||128=x.1 % 128+128:=by decide
theorem CY(U:Nat):bits .or .u8 ((U:Int) % 256) 128=((U % 128+128:Nat):Int):=by
 have h:=u8_or_nat (U % 256) 128 (by omega) (by omega)
 rw[FM ⟨U % 256,by omega⟩]at h
 rw[show((128:Nat):Int)=128 from rfl,show((U % 256:Nat):Int)=(U:Int) % 256 by omega]at h
 rw[h];show((U % 256 % 128+128:Nat):Int)=_;omega
theorem ll(u:Nat)(w:World)(hu:u<18446744073709551616):
 Calls Tryz.prog 100 #[.int .u64 u] w fun e w'=>e= .returned (.string ⟨(bp u).toArray⟩)∧Below w.heap.size w w':=by
 obtain⟨i0,hi,hz0,hz1,hz2⟩:=info_parts AR
 have HI:=Lib.hid hi;clear hi
 have HZ:=Lib.hid hz0;clear hz0
 have HZ1:=Lib.hid hz1;clear hz1
 have HZ2:=Lib.hid hz2;clear hz2
 have HU:=Lib.hid hu;clear hu
 go_enter Tryz.func100,Tryz.ntmps100
 go_wp2
 go_loopw [0,3] (fun x v wr=> ∃ (U j:Nat) (acc:List UInt8),j≤9∧x= .int .u64 U∧U<2 * 128 ^ (9-j)∧acc.length=j∧bp u=acc++gj (9-j) U∧wr.ownsRow w.heap.size 5 1 v j (eU acc)∧Below w.heap.size w wr) (fun x _ _=>(intOf x).toNat)
 case atStart=>exact⟨u,0,[],by omega,rfl,by have:=HU.out;simpa using this,rfl,rfl,World.ownsRow_nil _ _ _ _,Below.refl _ _⟩
 case round=>
  obtain⟨U,j,acc,hj,rfl,hU,hacc,hput,hown,hb⟩:=hrel
  have HO:=Lib.hid hown;clear hown
  have HB:=Lib.hid hb;have hbs:=hb.size;clear hb
  have HP:=Lib.hid hput;clear hput
  have HA:=Lib.hid hacc;clear hacc
  have hU64:U<18446744073709551616:=Nat.lt_of_lt_of_le hU (Nat.le_trans (Nat.mul_le_mul_left 2 (Nat.pow_le_pow_right (by decide) (show 9-j≤9 by omega))) (by decide))
  by_cases hge:128≤U
  · have hj2:j<9:=by
     by_cases h:j=9
     · subst h;simp at hU;omega
     · omega
    have HS := Lib.hid (show bp u=(acc++[UInt8.ofNat (U % 128+128)])++gj (9 - (j+1)) (U / 128)by
     rw[HP.out,show 9-j=(9 - (j+1))+1 by omega,gj,if_pos hge,List.append_assoc];rfl)
    have HU2 := Lib.hid (show U / 128<2 * 128 ^ (9 - (j+1))by
     rw[show 9-j=(9 - (j+1))+1 by omega,eY]at hU;omega)
    have hor:=CY U
    have hgb:decide ((128:Int)≤(U:Int))=true:=decide_eq_true (by omega)
    have hbc:((U % 128+128:Nat):Int)=((UInt8.ofNat (U % 128+128)).toNat:Int):=by rw[UInt8.toNat_ofNat'];omega
    rw[hbc]at hor
    clear hbc hU
    go_wp2_with (at_builtin;refine wpList_append_own _ rfl _ _ 125 rfl w.heap.size 5 i0 (.int .u8 0) 1 1 Tryz.underlying125 HI.out HZ.out HZ1.out HZ2.out rfl (by decide) _ j (eU acc) rfl (HO.out.alloc _) ⟨wr.heap.size,0,none⟩ 1 1 [.int .u8 ((UInt8.ofNat (U % 128+128)).toNat:Int)] rfl rfl (cell_one_new _ _ _) (by simp[Value.oneCell']) (by unfold maxLen;omega) (by omega) (by simp;omega) ?_;intro v' w1 hown' hgrow _)
    have hb1:Below w.heap.size w w1:=(HB.out.alloc hbs _).grown hgrow (by simp;omega) (fun g hg=>(HO.out.lt g hg).1)
    have HO':=Lib.hid hown';clear hown' hgrow
    go_wp2
    go_roundw
    case rel=>exact⟨U / 128,j+1,acc++[UInt8.ofNat (U % 128+128)],by omega,by go_num,HU2.out,by rw[List.length_append,HA.out];rfl,HS.out,by rw[gJ];exact HO'.out,hb1⟩
    case measure=>simp[intOf];omega
  · obtain⟨c,rfl⟩:∃c:UInt8,U=c.toNat:=⟨UInt8.ofNat U,by rw[UInt8.toNat_ofNat'];omega⟩
    have HS := Lib.hid (show bp u=acc++[c]by
     rw[HP.out];congr 1
     cases hn:9-j with
     |zero=>simp[gj]
     |succ n=>rw[gj,if_neg hge];simp)
    have hgb:decide ((128:Int)≤(c.toNat:Int))=false:=decide_eq_false (by omega)
    clear hU hge hU64
    go_wp2_with (at_builtin;refine wpList_append_own _ rfl _ _ 125 rfl w.heap.size 5 i0 (.int .u8 0) 1 1 Tryz.underlying125 HI.out HZ.out HZ1.out HZ2.out rfl (by decide) _ j (eU acc) rfl (HO.out.alloc _) ⟨wr.heap.size,0,none⟩ 1 1 [.int .u8 ((c.toNat:Int) % 256)] rfl rfl (cell_one_new _ _ _) (by simp[Value.oneCell']) (by unfold maxLen;omega) (by omega) (by simp;omega) ?_;intro v' w1 hown' hgrow _;have hb1:Below w.heap.size w w1:=(HB.out.alloc hbs _).grown hgrow (by simp;omega) (fun g hg=>(HO.out.lt g hg).1);rw[show(c.toNat:Int) % 256=(c.toNat:Int)by have:=c.toNat_lt;omega,←gJ,←HA.out,show acc.length+1=(acc++[c]).length by simp]at hown';have hcv:=ul w1 w.heap.size _ (acc++[c]) (by simp) hown';clear hown' hgrow)
    go_ret
    exact⟨fD (by rw[HS.out]),hb1⟩
theorem fp(u:Nat)(w:World)(hu:u<18446744073709551616):
 Calls Tryz.prog 147 #[.int .u64 u] w fun e w'=>e= .returned (.string ⟨(bp u).toArray⟩)∧Below w.heap.size w w':=by
 obtain⟨i0,hi,hz0,hz1,hz2⟩:=info_parts AR
 have HI:=Lib.hid hi;clear hi
 have HZ:=Lib.hid hz0;clear hz0
 have HZ1:=Lib.hid hz1;clear hz1
 have HZ2:=Lib.hid hz2;clear hz2
 have HU:=Lib.hid hu;clear hu
 go_enter Tryz.func147,Tryz.ntmps147
 go_wp2
 go_loopw [0,3] (fun x v wr=> ∃ (U j:Nat) (acc:List UInt8),j≤9∧x= .int .u64 U∧U<2 * 128 ^ (9-j)∧acc.length=j∧bp u=acc++gj (9-j) U∧wr.ownsRow w.heap.size 5 1 v j (eU acc)∧Below w.heap.size w wr) (fun x _ _=>(intOf x).toNat)
 case atStart=>exact⟨u,0,[],by omega,rfl,by have:=HU.out;simpa using this,rfl,rfl,World.ownsRow_nil _ _ _ _,Below.refl _ _⟩
 case round=>
  obtain⟨U,j,acc,hj,rfl,hU,hacc,hput,hown,hb⟩:=hrel
  have HO:=Lib.hid hown;clear hown
  have HB:=Lib.hid hb;have hbs:=hb.size;clear hb
  have HP:=Lib.hid hput;clear hput
  have HA:=Lib.hid hacc;clear hacc
  have hU64:U<18446744073709551616:=Nat.lt_of_lt_of_le hU (Nat.le_trans (Nat.mul_le_mul_left 2 (Nat.pow_le_pow_right (by decide) (show 9-j≤9 by omega))) (by decide))
  by_cases hge:128≤U
  · have hj2:j<9:=by
     by_cases h:j=9
     · subst h;simp at hU;omega
     · omega
    have HS := Lib.hid (show bp u=(acc++[UInt8.ofNat (U % 128+128)])++gj (9 - (j+1)) (U / 128)by
     rw[HP.out,show 9-j=(9 - (j+1))+1 by omega,gj,if_pos hge,List.append_assoc];rfl)
    have HU2 := Lib.hid (show U / 128<2 * 128 ^ (9 - (j+1))by
     rw[show 9-j=(9 - (j+1))+1 by omega,eY]at hU;omega)
    have hgb:decide ((128:Int)≤(U:Int))=true:=decide_eq_true (by omega)
    obtain⟨c,hc⟩:∃c:UInt8,c=UInt8.ofNat (U % 128+128):=⟨_,rfl⟩
    have HC:=Lib.hid (show(U:Int) % 128+128=(c.toNat:Int)by rw[hc,UInt8.toNat_ofNat'];omega)
    rw[←hc]at HS
    clear hU hc
    go_wp2_with (at_builtin;refine wpList_append_own _ rfl _ _ 125 rfl w.heap.size 5 i0 (.int .u8 0) 1 1 Tryz.underlying125 HI.out HZ.out HZ1.out HZ2.out rfl (by decide) _ j (eU acc) rfl (HO.out.alloc _) ⟨wr.heap.size,0,none⟩ 1 1 [.int .u8 ((U:Int) % 128+128)] rfl rfl (cell_one_new _ _ _) (by simp[Value.oneCell']) (by unfold maxLen;omega) (by omega) (by simp;omega) ?_;intro v' w1 hown' hgrow _)
    have hb1:Below w.heap.size w w1:=(HB.out.alloc hbs _).grown hgrow (by simp;omega) (fun g hg=>(HO.out.lt g hg).1)
    rw[HC.out]at hown'
    have HO':=Lib.hid hown';clear hown' hgrow
    go_wp2
    go_roundw
    case rel=>exact⟨U / 128,j+1,acc++[c],by omega,by go_num,HU2.out,by rw[List.length_append,HA.out];rfl,HS.out,by rw[gJ];exact HO'.out,hb1⟩
    case measure=>simp[intOf];omega
  · obtain⟨c,rfl⟩:∃c:UInt8,U=c.toNat:=⟨UInt8.ofNat U,by rw[UInt8.toNat_ofNat'];omega⟩
    have HS := Lib.hid (show bp u=acc++[c]by
     rw[HP.out];congr 1
     cases hn:9-j with
     |zero=>simp[gj]
     |succ n=>rw[gj,if_neg hge];simp)
    have hgb:decide ((128:Int)≤(c.toNat:Int))=false:=decide_eq_false (by omega)
    clear hU hge hU64
    go_wp2_with (at_builtin;refine wpList_append_own _ rfl _ _ 125 rfl w.heap.size 5 i0 (.int .u8 0) 1 1 Tryz.underlying125 HI.out HZ.out HZ1.out HZ2.out rfl (by decide) _ j (eU acc) rfl (HO.out.alloc _) ⟨wr.heap.size,0,none⟩ 1 1 [.int .u8 ((c.toNat:Int) % 256)] rfl rfl (cell_one_new _ _ _) (by simp[Value.oneCell']) (by unfold maxLen;omega) (by omega) (by simp;omega) ?_;intro v' w1 hown' hgrow _;have hb1:Below w.heap.size w w1:=(HB.out.alloc hbs _).grown hgrow (by simp;omega) (fun g hg=>(HO.out.lt g hg).1);rw[show(c.toNat:Int) % 256=(c.toNat:Int)by have:=c.toNat_lt;omega,←gJ,←HA.out,show acc.length+1=(acc++[c]).length by simp]at hown';have hcv:=ul w1 w.heap.size _ (acc++[c]) (by simp) hown';clear hown' hgrow)
    go_ret
    exact⟨fD (by rw[HS.out]),hb1⟩
theorem CZ(u:Nat)(w:World)(hu:u<18446744073709551616):
 Calls Tryz.prog 144 #[.int .u64 u] w fun e w'=>e= .returned (.int .i64 ((bp u).length:Nat))∧w=w':=by
 have HU:=Lib.hid hu;clear hu
 go_enter Tryz.func144,Tryz.ntmps144
 go_wp2
 go_loop [0,3] (fun x v=> ∃ (U j:Nat),j≤9∧x= .int .u64 U∧v= .int .i64 ((j:Int)+1)∧U<2 * 128 ^ (9-j)∧(bp u).length=j+(gj (9-j) U).length) (fun x _=>(intOf x).toNat)
 case atStart=>exact⟨u,0,by omega,rfl,rfl,by have:=HU.out;simpa using this,by rw[Nat.zero_add];rfl⟩
 case round=>
  obtain⟨U,j,hj,rfl,rfl,hU,hput⟩:=hrel
  have HP:=Lib.hid hput;clear hput
  have hU64:U<18446744073709551616:=Nat.lt_of_lt_of_le hU (Nat.le_trans (Nat.mul_le_mul_left 2 (Nat.pow_le_pow_right (by decide) (show 9-j≤9 by omega))) (by decide))
  by_cases hge:128≤U
  · have hj2:j<9:=by
     by_cases h:j=9
     · subst h;simp at hU;omega
     · omega
    have HS := Lib.hid (show(bp u).length=(j+1)+(gj (9 - (j+1)) (U / 128)).length by
     rw[HP.out,show 9-j=(9 - (j+1))+1 by omega,gj,if_pos hge,List.length_cons];omega)
    have HU2 := Lib.hid (show U / 128<2 * 128 ^ (9 - (j+1))by
     rw[show 9-j=(9 - (j+1))+1 by omega,eY]at hU;omega)
    have hgb:decide ((128:Int)≤(U:Int))=true:=decide_eq_true (by omega)
    clear hU
    go_wp2
    go_round
    case rel=>exact⟨U / 128,j+1,by omega,by go_num,by go_num,HU2.out,HS.out⟩
    case measure=>simp[intOf];omega
  · have HS := Lib.hid (show(bp u).length=j+1 by
     rw[HP.out];congr 1
     cases hn:9-j with
     |zero=>simp[gj]
     |succ n=>rw[gj,if_neg hge];simp)
    have hgb:decide ((128:Int)≤(U:Int))=false:=decide_eq_false (by omega)
    clear hU
    go_wp2
    go_ret
    exact⟨bh (by rw[HS.out];omega),rfl⟩
end
section
open Go.RowKit
theorem EM(n:Nat):(2:Nat) ^ (7 * n)=128 ^ n:=by rw[Nat.pow_mul]
theorem wo(U x n:Nat)(hU:U<128 ^ n):U|||(x * 128 ^ n)=U+x * 128 ^ n:=by
 have h:=Nat.two_pow_add_eq_or_of_lt (i:=7 * n) (b:=U) (by rw[EM];exact hU) x
 rw[EM]at h
 rw[Nat.mul_comm x,Nat.or_comm,←h,Nat.add_comm]
theorem pI(n c:Nat)(h:n<9∨(n=9∧c≤1)):c % 128 * 128 ^ n≤9223372036854775808:=by
 rcases h with h|⟨rfl,h⟩
 · have h1:128 ^ n≤128 ^ 8:=Nat.pow_le_pow_right (by decide) (by omega)
   have h2:c % 128 * 128 ^ n≤127 * 128 ^ 8:=Nat.mul_le_mul (by omega) h1
   exact Nat.le_trans h2 (by decide)
 · have h2:c % 128 * 128 ^ 9≤1 * 128 ^ 9:=Nat.mul_le_mul_right _ (by omega)
   exact Nat.le_trans h2 (by decide)
theorem th(n:Nat)(h:n≤9):128 ^ n≤9223372036854775808:=Nat.le_trans (Nat.pow_le_pow_right (by decide) h) (by decide)
theorem uq(U n:Nat)(c:UInt8)(hU:U<128 ^ n)(hn:n<9∨(n=9∧c.toNat≤1)):
 bits .or .u64 (U:Int) (IntKind.u64.wrap (IntKind.u64.wrap (bits .and .u8 (c.toNat:Int) 127) * 2 ^ (7 * n)))=((U+c.toNat % 128 * 128 ^ n:Nat):Int):=by
 have hc:=c.toNat_lt
 have h1:=u8_and_nat c.toNat 127 hc (by omega)
 rw[show((127:Nat):Int)=127 from rfl]at h1
 rw[h1,show(127:Nat)=2 ^ 7-1 from rfl,Nat.and_two_pow_sub_one_eq_mod]
 have hl:=pI n c.toNat hn
 have hp:=th n (by omega)
 have e:((c.toNat % 2 ^ 7:Nat):Int) * 2 ^ (7 * n)=((c.toNat % 128 * 128 ^ n:Nat):Int):=by
  rw[Int.natCast_mul,←EM,Int.natCast_pow];rfl
 have w1:IntKind.u64.wrap ((c.toNat % 2 ^ 7:Nat):Int)=((c.toNat % 2 ^ 7:Nat):Int):=by rw[IntKind.wrap_u64];omega
 rw[w1,e]
 have w2:IntKind.u64.wrap ((c.toNat % 128 * 128 ^ n:Nat):Int)=((c.toNat % 128 * 128 ^ n:Nat):Int):=by rw[IntKind.wrap_u64];omega
 rw[w2,u64_or_nat _ _ (by omega) (by omega),wo U _ n hU]
theorem yD(U:Nat)(c:UInt8)(hU:U<128 ^ 9)(hc:c.toNat≤1):
 bits .or .u64 (U:Int) (IntKind.u64.wrap (IntKind.u64.wrap (bits .and .u8 (c.toNat:Int) 127) * 9223372036854775808))=((U+c.toNat % 128 * 128 ^ 9:Nat):Int):=uq U 9 c hU (.inr ⟨rfl,hc⟩)
def bR(s:ByteArray):Nat×Nat×Int:=gZ s.data.toList
theorem nP(s:ByteArray){k:Nat}(h:k<s.size):s.data.toList.drop k=s[k]::s.data.toList.drop (k+1):=by
 rw[List.drop_eq_getElem_cons (by simpa using h)];rfl
theorem ur(s:ByteArray){k:Nat}(h:s.size≤k):s.data.toList.drop k=[]:=List.drop_eq_nil_of_le (by rw[Array.length_toList];exact h)
theorem rO(s:ByteArray)(n U:Nat)(h:n<s.size)(hn:n≤9):cK (10-n) (s.data.toList.drop n) n U=
 if n=9∧1<s[n].toNat then(0,0,6)else if s[n].toNat<128 then(U+s[n].toNat % 128 * 128 ^ n,n+1,0)else cK (10 - (n+1)) (s.data.toList.drop (n+1)) (n+1) (U+s[n].toNat % 128 * 128 ^ n):=by
 rw[nP s h,show 10-n=(10 - (n+1))+1 by omega,cK]
 simp only[show(10 - (n+1)=0) ↔ n=9 by omega]
theorem ti{U n c:Nat}(hU:U<128 ^ n):U+c % 128 * 128 ^ n<128 ^ (n+1):=by
 rw[eY]
 have:c % 128 * 128 ^ n≤127 * 128 ^ n:=Nat.mul_le_mul_right _ (by omega)
 omega
theorem kH{a a' b b' c c':Int}(h1:a=a')(h2:b=b')(h3:c=c'):Ending.returned (.tuple #[.int .u64 a,.int .i64 b,.int .i64 c])= .returned (.tuple #[.int .u64 a',.int .i64 b',.int .i64 c']):=by rw[h1,h2,h3]
theorem ut(s:ByteArray)(w:World)(hs:s.size≤9223372036854775806):
 Calls Tryz.prog 143 #[.string s] w fun e w'=>e= .returned (.tuple #[.int .u64 ((bR s).1:Nat),.int .i64 ((bR s).2.1:Nat),.int .i64 (bR s).2.2])∧w=w':=by
 have HT0:=Lib.hid (show bR s=cK 10 s.data.toList 0 0 from rfl)
 generalize bR s=R at *
 go_enter Tryz.func143,Tryz.ntmps143
 go_wp2
 go_step3
 go_wp2
 go_step3
 go_wp2
 go_loop [5,6] (fun x i=> ∃n U:Nat,n≤9∧n≤s.size∧i= .int .i64 n∧x= .int .u64 U∧U<128 ^ n∧R=cK (10-n) (s.data.toList.drop n) n U) (fun _ i=>10 - (intOf i).toNat)
 case atStart=>exact⟨0,0,by omega,Nat.zero_le _,rfl,rfl,by decide,HT0.out⟩
 case round=>
  obtain⟨n,U,hn,hns,rfl,rfl,hU,hT⟩:=hrel
  have HT:=Lib.hid hT;clear hT
  by_cases hz:n=s.size
  · have hqs:((n:Int)==(s.size:Int))=true:=by rw[beq_iff_eq];omega
    have HR := Lib.hid (show R=(0,0,4)by
     rw[HT.out,ur s (by omega)]
     obtain⟨k,hk⟩:∃k,10-n=k+1:=⟨9-n,by omega⟩
     rw[hk];rfl)
    clear hz hU
    go_wp2_with fail
    try rw[Exit.noGoto_ret]
    go_ret3
    exact⟨kH (by rw[HR.out];rfl) (by rw[HR.out];rfl) (by rw[HR.out]),rfl⟩
  · have hlt:n<s.size:=by omega
    have hqs:((n:Int)==(s.size:Int))=false:=by rw[beq_eq_false_iff_ne];omega
    have hnx:=rO s n U hlt hn
    by_cases h9:n=9∧1<s[n].toNat
    · have HR:=Lib.hid (show R=(0,0,6)by rw[HT.out,hnx,if_pos h9])
      obtain⟨rfl,h9b⟩:=h9
      have hqs2:((9:Int)==(s.size:Int))=false:=hqs
      clear hz hnx hU hqs
      go_wp2_with fail
      try rw[Exit.noGoto_ret]
      go_ret3
      exact⟨kH (by rw[HR.out];rfl) (by rw[HR.out];rfl) (by rw[HR.out]),rfl⟩
    · rw[if_neg h9]at hnx
      have hor:=uq U n s[n] hU (by omega)
      have HL:=Lib.hid (ti (c:=s[n].toNat) hU)
      have HOR9:=Lib.hid (fun(e:n=9) (h1:s[n].toNat≤1)=>show bits .or .u64 (U:Int) (IntKind.u64.wrap (IntKind.u64.wrap (bits .and .u8 (s[n].toNat:Int) 127) * 9223372036854775808))=((U+s[n].toNat % 128 * 128 ^ n:Nat):Int)by subst e;exact yD U _ hU h1)
      generalize U+s[n].toNat % 128 * 128 ^ n=V at *
      by_cases h8:s[n].toNat<128
      · rw[if_pos h8]at hnx
        have HR:=Lib.hid (show R=(V,n+1,0)by rw[HT.out,hnx])
        clear hnx hU hz
        by_cases hq:n=9
        · subst hq
          have h1:s[9].toNat≤1:=by omega
          have hqs2:((9:Int)==(s.size:Int))=false:=hqs
          have hor9:=HOR9.out rfl h1
          clear h9 h8 hqs hor HOR9
          have h8:s[9].toNat<128:=by omega
          go_wp2_with fail
          try rw[Exit.noGoto_ret]
          go_ret3
          exact⟨kH (by rw[HR.out]) (by rw[HR.out];rfl) (by rw[HR.out]),rfl⟩
        · have hq9:((n:Int)==9)=false:=by rw[beq_eq_false_iff_ne];omega
          clear h9 hq
          go_wp2_with fail
          try rw[Exit.noGoto_ret]
          go_ret3
          exact⟨kH (by rw[HR.out]) (by rw[HR.out];rfl) (by rw[HR.out]),rfl⟩
      · rw[if_neg h8]at hnx
        have HR:=Lib.hid (show R=cK (10 - (n+1)) (s.data.toList.drop (n+1)) (n+1) V by rw[HT.out,hnx])
        have hq:n<9:=by omega
        have hq9:((n:Int)==9)=false:=by rw[beq_eq_false_iff_ne];omega
        have h8':128≤s[n].toNat:=by omega
        clear hnx hU hz h9 h8
        go_wp2_with fail
        go_round
        case rel=>exact⟨n+1,V,by omega,by omega,by go_num,rfl,HL.out,HR.out⟩
        case measure=>simp[intOf];omega
theorem iY(s:ByteArray)(w:World)(hs:s.size≤9223372036854775806):
 Calls Tryz.prog 155 #[.string s] w fun e w'=>e= .returned (.tuple #[.int .u64 ((bR s).1:Nat),.int .i64 ((bR s).2.1:Nat),.int .i64 (bR s).2.2])∧w=w':=by
 have HT0:=Lib.hid (show bR s=cK 10 s.data.toList 0 0 from rfl)
 generalize bR s=R at *
 go_enter Tryz.func155,Tryz.ntmps155
 go_wp2
 go_loop [5,6,7] (fun x y i=> ∃n U W:Nat,n≤9∧n≤s.size∧i= .int .i64 n∧x= .int .u64 U∧y= .int .u64 W∧W=128 ^ n∧U<W∧R=cK (10-n) (s.data.toList.drop n) n U) (fun _ _ i=>10 - (intOf i).toNat)
 case atStart=>exact⟨0,0,1,by omega,Nat.zero_le _,rfl,rfl,rfl,rfl,by decide,HT0.out⟩
 case round=>
  obtain⟨n,U,W,hn,hns,rfl,rfl,rfl,hW,hU,hT⟩:=hrel
  have HT:=Lib.hid hT;clear hT
  by_cases hz:n=s.size
  · have HR := Lib.hid (show R=(0,0,4)by
     rw[HT.out,ur s (by omega)]
     obtain⟨k,hk⟩:∃k,10-n=k+1:=⟨9-n,by omega⟩
     rw[hk];rfl)
    have hge:s.size≤n:=by omega
    clear hz hU hW
    go_wp2_with fail
    go_ret3
    exact⟨kH (by rw[HR.out];rfl) (by rw[HR.out];rfl) (by rw[HR.out]),rfl⟩
  · have hlt:n<s.size:=by omega
    have hnx:=rO s n U hlt hn
    have hcl:=s[n].toNat_lt
    by_cases h9:n=9∧1<s[n].toNat
    · have HR:=Lib.hid (show R=(0,0,6)by rw[HT.out,hnx,if_pos h9])
      obtain⟨rfl,h9b⟩:=h9
      clear hz hnx hU hW
      go_wp2_with fail
      go_ret3
      exact⟨kH (by rw[HR.out];rfl) (by rw[HR.out];rfl) (by rw[HR.out]),rfl⟩
    · rw[if_neg h9]at hnx
      have hP:=pI n s[n].toNat (by omega)
      have hWl:=th n hn
      have HL:=Lib.hid (ti (c:=s[n].toNat) (show U<128 ^ n by omega))
      rw[←hW]at hnx hP hWl HL
      have hm:((s[n].toNat:Int) % 128) * (W:Int)=((s[n].toNat % 128 * W:Nat):Int):=by rw[Int.natCast_mul];congr 1
      have hw1:IntKind.u64.wrap (((s[n].toNat:Int) % 128) * (W:Int))=((s[n].toNat % 128 * W:Nat):Int):=by rw[hm,IntKind.wrap_u64];omega
      have hw2:IntKind.u64.wrap ((U:Int)+((s[n].toNat % 128 * W:Nat):Int))=((U+s[n].toNat % 128 * W:Nat):Int):=by rw[IntKind.wrap_u64];omega
      have HWn := Lib.hid (fun(h:n<9)=>show IntKind.u64.wrap ((W:Int) * 128)=((W * 128:Nat):Int)by
       have h1:128 ^ n≤128 ^ 8:=Nat.pow_le_pow_right (by decide) (by omega)
       have h2:W≤72057594037927936:=by rw[hW];exact Nat.le_trans h1 (by decide)
       rw[IntKind.wrap_u64];omega)
      have HW:=Lib.hid hW
      clear hm hW
      generalize hPd:s[n].toNat % 128 * W=P at *
      clear hPd
      have hV0:((U+P:Nat):Int)=(U:Int)+(P:Int):=by omega
      rw[hV0]at hw2
      clear hV0
      by_cases h8:s[n].toNat<128
      · rw[if_pos h8]at hnx
        have HR:=Lib.hid (show R=(U+P,n+1,0)by rw[HT.out,hnx])
        by_cases hq:n=9
        · subst hq
          have h1:s[9].toNat≤1:=by omega
          clear h9 h8 hnx hU hz hP hWl hcl HWn
          have h8:s[9].toNat<128:=by omega
          go_wp2_with fail
          go_ret3
          exact⟨kH (by rw[HR.out];rfl) (by rw[HR.out];rfl) (by rw[HR.out]),rfl⟩
        · have hq9:((n:Int)==9)=false:=by rw[beq_eq_false_iff_ne];omega
          clear h9 hq hnx hU hz hP hWl hcl HWn
          go_wp2_with fail
          go_ret3
          exact⟨kH (by rw[HR.out];rfl) (by rw[HR.out];rfl) (by rw[HR.out]),rfl⟩
      · rw[if_neg h8]at hnx
        have HR:=Lib.hid (show R=cK (10 - (n+1)) (s.data.toList.drop (n+1)) (n+1) (U+P)by rw[HT.out,hnx])
        have hq:n<9:=by omega
        have hq9:((n:Int)==9)=false:=by rw[beq_eq_false_iff_ne];omega
        have h8':128≤s[n].toNat:=by omega
        have hw3:=HWn.out hq
        clear hnx hU hz h9 h8 hP hWl HWn
        go_wp2_with fail
        go_round
        case rel=>exact⟨n+1,U+P,W * 128,by omega,by omega,by go_num,by go_num,by go_num,by rw[HW.out,eY,Nat.mul_comm],by have:=HL.out;rw[eY,←HW.out]at this;omega,HR.out⟩
        case measure=>simp[intOf];omega
theorem uu(s:ByteArray)(n:Nat):(s.extract 0 n).data.toList=s.data.toList.take n:=by
 rw[ByteArray.data_extract,Array.toList_extract,List.extract_eq_take_drop];simp
theorem tj(s:ByteArray)(u n:Nat)(w:World)(hs:s.size≤9223372036854775806)(hu:u<18446744073709551616)(h:bR s=(u,n,0))(hn:n=s.size):
 Calls Tryz.prog 156 #[.string s] w fun e w'=>e= .returned (.bool (decide (bp u=s.data.toList)))∧Below w.heap.size w w':=by
 have HT:=Lib.hid (fun w=>(iY s w hs).mono fun e w' he=>(show e= .returned (.tuple #[.int .u64 u,.int .i64 n,.int .i64 0])∧w=w' by rw[h]at he;exact he))
 have HP:=Lib.hid (fun w=>fp u w hu)
 have HD:=Lib.hid (show((bp u)==s.toList)=decide (bp u=s.data.toList)by rw[ByteArray.toList_eq,Bool.eq_iff_iff];simp)
 clear h hu
 have hq:((n:Int)==(s.size:Int))=true:=by rw[beq_iff_eq];omega
 clear hn
 generalize decide (bp u=s.data.toList)=B at *
 go_enter Tryz.func156,Tryz.ntmps156
 go_wp2_with fail
 refine(HT.out _).mono ?_;rintro e w1 ⟨rfl,rfl⟩
 go_wp2_with fail
 refine(HP.out _).mono ?_;rintro e w2 ⟨rfl,hb⟩
 have hd:=HD.out
 go_wp2_with fail
 go_ret
 exact⟨rfl,hb⟩
theorem yE{s:ByteArray}{u n:Nat}(h:bR s=(u,n,0)):bR (s.extract 0 n)=(u,n,0):=by
 unfold bR gZ at *
 have:=uh 10 _ 0 0 u n h
 rw[uu]
 simpa using this
theorem xw:∀ (k:Nat) (l:List UInt8) (n a u m:Nat),n+k=10→a<128 ^ n→cK k l n a=(u,m,0)→u<18446744073709551616
 |0,_,_,_,_,_,_,_,h=>by simp[cK]at h
 |_+1,[],_,_,_,_,_,_,h=>by simp[cK]at h
 |k+1,c::l,n,a,u,m,hk,ha,h=>by
  unfold cK at h
  split at h
  · simp at h
  · rename_i h1
    split at h
    · simp only[Prod.mk.injEq]at h
      have:=pI n c.toNat (by omega)
      have:=th n (by omega)
      omega
    · exact xw k l (n+1) _ u m (by omega) (ti ha) h
theorem mE{s:ByteArray}{u n:Nat}(h:bR s=(u,n,0)):u<18446744073709551616:=xw 10 _ 0 0 u n rfl (by decide) h
end
end Go.Proofs.YthiocbcokfondaaGreatDoor
