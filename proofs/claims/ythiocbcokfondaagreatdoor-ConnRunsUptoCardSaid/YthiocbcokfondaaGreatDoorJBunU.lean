import GoSem.Core.Utf8
import Derived.Lib.Hide
import Derived.Lib.Strings
import Derived.Lib.SplitLaws
import Derived.Lib.IndexBytes
set_option maxRecDepth 100000
set_option maxHeartbeats 32000000
namespace Go.Proofs.YthiocbcokfondaaGreatDoor
section
open Go
def dA(l:List UInt8)(k:Nat):Nat:=(l.getD k 0).toNat
def rh(l:List UInt8)(k lo hi:Nat):Bool:=decide (k<l.length) &&decide (lo≤dA l k) &&decide (dA l k≤hi)
def dm:Nat→List UInt8→Nat→Bool
 |0,_,_=>true
 |n+1,l,k=>rh l k 128 191&&dm n l (k+1)
def ew(l:List UInt8):Nat:=
 if dA l 0<128 then 1
 else if 194≤dA l 0∧dA l 0≤223∧dm 1 l 1=true then 2
 else if dA l 0=224∧rh l 1 160 191=true∧dm 1 l 2=true then 3
 else if dA l 0=237∧rh l 1 128 159=true∧dm 1 l 2=true then 3
 else if 225≤dA l 0∧dA l 0≤239∧dA l 0≠237∧dm 2 l 1=true then 3
 else if dA l 0=240∧rh l 1 144 191=true∧dm 2 l 2=true then 4
 else if 241≤dA l 0∧dA l 0≤243∧dm 3 l 1=true then 4
 else if dA l 0=244∧rh l 1 128 143=true∧dm 2 l 2=true then 4
 else 0
theorem tf(l:List UInt8)(k:Nat):dA l k<256:=(l.getD k 0).toNat_lt
theorem li(l:List UInt8)(k lo hi:Nat):rh l k lo hi=true ↔ (k<l.length∧lo≤dA l k∧dA l k≤hi):=by simp[rh,and_assoc]
theorem nJ(l:List UInt8)(k:Nat):dm 1 l k=true ↔ (k<l.length∧128≤dA l k∧dA l k≤191):=by
 simp only[dm,Bool.and_true];exact li _ _ _ _
theorem nK(l:List UInt8)(k:Nat):dm 2 l k=true ↔ ((k<l.length∧128≤dA l k∧dA l k≤191)∧(k+1<l.length∧128≤dA l (k+1)∧dA l (k+1)≤191)):=by
 rw[dm,Bool.and_eq_true,nJ,li]
theorem rM(l:List UInt8)(k:Nat):dm 3 l k=true ↔ ((k<l.length∧128≤dA l k∧dA l k≤191)∧(k+1<l.length∧128≤dA l (k+1)∧dA l (k+1)≤191)∧(k+2<l.length∧128≤dA l (k+2)∧dA l (k+2)≤191)):=by
 rw[dm,Bool.and_eq_true,nK,li]
def oJ(l:List UInt8)(k:Nat):Bool:=decide (k<l.length) && (dA l k / 64==2)
def pE(l:List UInt8):Nat×Nat:=
 if dA l 0<0x80 then(dA l 0,1)
 else if dA l 0 / 32==6&&oJ l 1 then
  if(dA l 0 % 32) * 64+dA l 1 % 64≥0x80 then((dA l 0 % 32) * 64+dA l 1 % 64,2)else(65533,1)
 else if dA l 0 / 16==14&&oJ l 1&&oJ l 2 then
  if(dA l 0 % 16) * 4096+(dA l 1 % 64) * 64+dA l 2 % 64≥0x800&&Utf8.valid ((dA l 0 % 16) * 4096+(dA l 1 % 64) * 64+dA l 2 % 64:Nat)then((dA l 0 % 16) * 4096+(dA l 1 % 64) * 64+dA l 2 % 64,3)else(65533,1)
 else if dA l 0 / 8==30&&oJ l 1&&oJ l 2&&oJ l 3 then
  if(dA l 0 % 8) * 262144+(dA l 1 % 64) * 4096+(dA l 2 % 64) * 64+dA l 3 % 64≥0x10000&&Utf8.valid ((dA l 0 % 8) * 262144+(dA l 1 % 64) * 4096+(dA l 2 % 64) * 64+dA l 3 % 64:Nat)then((dA l 0 % 8) * 262144+(dA l 1 % 64) * 4096+(dA l 2 % 64) * 64+dA l 3 % 64,4)else(65533,1)
 else(65533,1)
theorem AN(s:ByteArray)(i k:Nat):(s.get! (i+k)).toNat=dA (s.data.toList.drop i) k:=by
 unfold dA
 rw[List.getD_eq_getElem?_getD,List.getElem?_drop,Array.getElem?_toList]
 show(s.data[i+k]!).toNat=_
 rw[getElem!_def]
 cases s.data[i+k]? <;>rfl
theorem lj(s:ByteArray)(i k:Nat):(i+k<s.size) ↔ k<(s.data.toList.drop i).length:=by
 rw[List.length_drop,Array.length_toList];show i+k<s.data.size ↔ _;omega
theorem lX(s:ByteArray)(i:Nat):Utf8.decode s i=pE (s.data.toList.drop i):=by
 unfold Utf8.decode pE oJ
 simp only[AN,lj]
 rfl
def rm(l:List UInt8):Bool:=Lib.hasPrefix l [239,191,189]
theorem AO(l:List UInt8):rm l=true ↔ (2<l.length∧dA l 0=239∧dA l 1=191∧dA l 2=189):=by
 unfold rm
 rcases l with _|⟨a,_|⟨b,_|⟨c,l⟩⟩⟩
 · simp[Lib.hasPrefix]
 · simp[Lib.hasPrefix]
 · simp[Lib.hasPrefix]
 · have h:∀x y:UInt8,(x==y)=decide (y.toNat=x.toNat):=fun x y=>by rw[Bool.eq_iff_iff];simp only[beq_iff_eq,decide_eq_true_eq,←UInt8.toNat_inj];exact eq_comm
   simp[Lib.hasPrefix,List.isPrefixOf,dA,h]
theorem CV(a b c d n:Nat)(h0:a<256)(h1:b<256)(h2:c<256)(h3:d<256)(z x y:Nat)
 (hz:z=if a<128 then 1
  else if 194≤a∧a≤223∧(1<n∧128≤b∧b≤191)then 2
  else if a=224∧(1<n∧160≤b∧b≤191)∧(2<n∧128≤c∧c≤191)then 3
  else if a=237∧(1<n∧128≤b∧b≤159)∧(2<n∧128≤c∧c≤191)then 3
  else if 225≤a∧a≤239∧a≠237∧((1<n∧128≤b∧b≤191)∧(2<n∧128≤c∧c≤191))then 3
  else if a=240∧(1<n∧144≤b∧b≤191)∧((2<n∧128≤c∧c≤191)∧(3<n∧128≤d∧d≤191))then 4
  else if 241≤a∧a≤243∧((1<n∧128≤b∧b≤191)∧(2<n∧128≤c∧c≤191)∧(3<n∧128≤d∧d≤191))then 4
  else if a=244∧(1<n∧128≤b∧b≤143)∧((2<n∧128≤c∧c≤191)∧(3<n∧128≤d∧d≤191))then 4
  else 0)
 (hx:(x,y)=if a<128 then(a,1)
  else if a / 32=6∧(1<n∧b / 64=2)then if 128≤a % 32 * 64+b % 64 then(a % 32 * 64+b % 64,2)else(65533,1)
  else if(a / 16=14∧(1<n∧b / 64=2))∧(2<n∧c / 64=2)then
   if 2048≤a % 16 * 4096+b % 64 * 64+c % 64∧(a % 16 * 4096+b % 64 * 64+c % 64<55296∨57344≤a % 16 * 4096+b % 64 * 64+c % 64∧a % 16 * 4096+b % 64 * 64+c % 64≤1114111)then(a % 16 * 4096+b % 64 * 64+c % 64,3)else(65533,1)
  else if((a / 8=30∧(1<n∧b / 64=2))∧(2<n∧c / 64=2))∧(3<n∧d / 64=2)then
   if 65536≤a % 8 * 262144+b % 64 * 4096+c % 64 * 64+d % 64∧(a % 8 * 262144+b % 64 * 4096+c % 64 * 64+d % 64<55296∨57344≤a % 8 * 262144+b % 64 * 4096+c % 64 * 64+d % 64∧a % 8 * 262144+b % 64 * 4096+c % 64 * 64+d % 64≤1114111)then(a % 8 * 262144+b % 64 * 4096+c % 64 * 64+d % 64,4)else(65533,1)
  else(65533,1)):
 (z=0∧x=65533∧y=1∧ ¬ (2<n∧a=239∧b=191∧c=189))∨(z≠0∧y=z∧(x≠65533∨(2<n∧a=239∧b=191∧c=189))):=by
 by_cases g:a<128
 · rw[if_pos g]at hx hz
   obtain⟨ex,ey⟩:=Prod.mk.inj hx
   omega
 rw[if_neg g]at hx hz
 by_cases g2:a / 32=6∧(1<n∧b / 64=2)
 · rw[if_pos g2]at hx
   have e1:a % 32=a-192:=by omega
   have e2:b % 64=b-128:=by omega
   have e3:192≤a∧a≤223∧1<n∧128≤b∧b≤191:=by omega
   rw[e1,e2]at hx
   clear g2 e1 e2
   by_cases g3:194≤a
   · rw[if_pos (by omega)]at hx hz
     obtain⟨ex,ey⟩:=Prod.mk.inj hx
     exact .inr ⟨by omega,by omega,by omega⟩
   · rw[if_neg (by omega)]at hx
     obtain⟨ex,ey⟩:=Prod.mk.inj hx
     rw[if_neg (by omega),if_neg (by omega),if_neg (by omega),if_neg (by omega),if_neg (by omega),if_neg (by omega),if_neg (by omega)]at hz
     exact .inl ⟨hz,ex,ey,by omega⟩
 rw[if_neg g2]at hx
 rw[if_neg (by omega)]at hz
 clear g2
 by_cases g2:(a / 16=14∧(1<n∧b / 64=2))∧(2<n∧c / 64=2)
 · rw[if_pos g2]at hx
   have e1:a % 16=a-224:=by omega
   have e2:b % 64=b-128:=by omega
   have e3:c % 64=c-128:=by omega
   have e4:224≤a∧a≤239∧2<n∧128≤b∧b≤191∧128≤c∧c≤191:=by omega
   rw[e1,e2,e3]at hx
   clear g2 e1 e2 e3
   by_cases g3:(a=224∧b<160)∨(a=237∧160≤b)
   · rw[if_neg (by omega)]at hx
     obtain⟨ex,ey⟩:=Prod.mk.inj hx
     rw[if_neg (by omega),if_neg (by omega),if_neg (by omega),if_neg (by omega),if_neg (by omega),if_neg (by omega)]at hz
     exact .inl ⟨hz,ex,ey,by omega⟩
   · rw[if_pos (by omega)]at hx
     obtain⟨ex,ey⟩:=Prod.mk.inj hx
     have hz3:z=3:=by
      by_cases g4:a=224
      · rw[if_pos (by omega)]at hz;exact hz
      · rw[if_neg (by omega)]at hz
        by_cases g5:a=237
        · rw[if_pos (by omega)]at hz;exact hz
        · rw[if_neg (by omega),if_pos (by omega)]at hz;exact hz
     exact .inr ⟨by omega,by omega,by omega⟩
 rw[if_neg g2]at hx
 rw[if_neg (by omega),if_neg (by omega),if_neg (by omega)]at hz
 have hnf:¬ (2<n∧a=239∧b=191∧c=189):=by omega
 clear g2
 by_cases g2:((a / 8=30∧(1<n∧b / 64=2))∧(2<n∧c / 64=2))∧(3<n∧d / 64=2)
 · rw[if_pos g2]at hx
   have e1:a % 8=a-240:=by omega
   have e2:b % 64=b-128:=by omega
   have e3:c % 64=c-128:=by omega
   have e5:d % 64=d-128:=by omega
   have e4:240≤a∧a≤247∧3<n∧128≤b∧b≤191∧128≤c∧c≤191∧128≤d∧d≤191:=by omega
   rw[e1,e2,e3,e5]at hx
   clear g2 e1 e2 e3 e5 hnf
   by_cases g3:(a=240∧b<144)∨(a=244∧144≤b)∨245≤a
   · rw[if_neg (by omega)]at hx
     obtain⟨ex,ey⟩:=Prod.mk.inj hx
     rw[if_neg (by omega),if_neg (by omega),if_neg (by omega)]at hz
     exact .inl ⟨hz,ex,ey,by omega⟩
   · rw[if_pos (by omega)]at hx
     obtain⟨ex,ey⟩:=Prod.mk.inj hx
     have hz3:z=4:=by
      by_cases g4:a=240
      · rw[if_pos (by omega)]at hz;exact hz
      · rw[if_neg (by omega)]at hz
        by_cases g5:a=244
        · rw[if_neg (by omega),if_pos (by omega)]at hz;exact hz
        · rw[if_pos (by omega)]at hz;exact hz
     exact .inr ⟨by omega,by omega,by omega⟩
 rw[if_neg g2]at hx
 obtain⟨ex,ey⟩:=Prod.mk.inj hx
 rw[if_neg (by omega),if_neg (by omega),if_neg (by omega)]at hz
 exact .inl ⟨hz,ex,ey,hnf⟩
theorem yA(c:Nat):Utf8.valid (c:Int)=true ↔ (c<55296∨57344≤c∧c≤1114111):=by
 unfold Utf8.valid
 simp only[Bool.or_eq_true,Bool.and_eq_true,decide_eq_true_eq]
 omega
theorem EI(l:List UInt8):(ew l=0∧pE l=(65533,1)∧rm l=false)∨(ew l≠0∧(pE l).2=ew l∧((pE l).1≠65533∨rm l=true)):=by
 have hf:=AO l
 have hf2:rm l=false ↔ ¬ (2<l.length∧dA l 0=239∧dA l 1=191∧dA l 2=189):=by rw[←hf];cases rm l<;>simp
 obtain⟨x,y,hxy⟩:∃x y,pE l=(x,y):=⟨_,_,rfl⟩
 have h:=CV (dA l 0) (dA l 1) (dA l 2) (dA l 3) l.length (tf l 0) (tf l 1) (tf l 2) (tf l 3) (ew l) x y
  (by unfold ew;simp only[li,nJ,nK,rM])
  (by rw[←hxy];unfold pE oJ;simp only[Bool.and_eq_true,decide_eq_true_eq,beq_iff_eq,ge_iff_le,yA])
 rw[hxy,hf,hf2]
 rcases h with ⟨e1,e2,e3,e4⟩|⟨e1,e2,e3⟩
 · exact .inl ⟨e1,by rw[e2,e3],e4⟩
 · exact .inr ⟨e1,e2,e3⟩
theorem AP(l:List UInt8)(h0:0<l.length):ew l≤l.length∧ew l≤4:=by
 unfold ew
 simp only[li,nJ,nK,rM]
 repeat' split
 all_goals omega
def CW:Nat→List UInt8→Int→Int
 |0,_,_=> -1
 |n+1,l,i=>if l=[]then -1 else if ew l=0 then i else CW n (l.drop (ew l)) (i+ew l)
theorem AQ:∀ (n:Nat) (l:List UInt8) (i:Int),l.length≤n→CW n l i=CW l.length l i:=by
 intro n
 induction n using Nat.strongRecOn with
 |ind n ih=>
  intro l i h
  cases l with
  |nil=>cases n<;>simp[CW]
  |cons c l=>
   cases n with
   |zero=>simp at h
   |succ n=>
    simp only[List.length_cons,CW,reduceCtorEq,if_false]
    split
    · rfl
    · rename_i hz
      have hl:((c::l).drop (ew (c::l))).length≤l.length:=by rw[List.length_drop,List.length_cons];omega
      simp only[List.length_cons]at h
      rw[ih n (by omega) _ _ (by omega),ih l.length (by omega) _ _ hl]
def iW(s:ByteArray)(k:Nat):Int:=CW (s.data.toList.drop k).length (s.data.toList.drop k) k
theorem rN(s:ByteArray)(k:Nat)(h:s.size≤k):iW s k= -1:=by
 have:s.data.toList.drop k=[]:=List.drop_eq_nil_of_le (by rw[Array.length_toList];exact h)
 unfold iW;rw[this];rfl
theorem oK(s:ByteArray)(k:Nat)(h:k<s.size)(hz:ew (s.data.toList.drop k)=0):iW s k=k:=by
 unfold iW
 have h1:0<(s.data.toList.drop k).length:=by rw[List.length_drop,Array.length_toList];show 0<s.size-k;omega
 obtain⟨n,hn⟩:∃n,(s.data.toList.drop k).length=n+1:=⟨_,(Nat.succ_pred_eq_of_pos h1).symm⟩
 rw[hn,CW,if_neg (by intro e;rw[e]at h1;simp at h1),if_pos hz]
theorem pF(s:ByteArray)(k:Nat)(h:k<s.size)(hz:ew (s.data.toList.drop k) ≠0):iW s k=iW s (k+ew (s.data.toList.drop k)):=by
 have h1:0<(s.data.toList.drop k).length:=by rw[List.length_drop,Array.length_toList];show 0<s.size-k;omega
 obtain⟨n,hn⟩:∃n,(s.data.toList.drop k).length=n+1:=⟨_,(Nat.succ_pred_eq_of_pos h1).symm⟩
 have e:iW s k=CW (n+1) (s.data.toList.drop k) k:=by unfold iW;rw[hn]
 rw[e,CW,if_neg (by intro e;rw[e]at h1;simp at h1),if_neg hz,List.drop_drop]
 unfold iW
 rw[AQ _ _ _ (by rw[List.length_drop]at hn ⊢;omega)]
 congr 1
def lY(s:ByteArray):Int:=iW s 0
def gi(s:ByteArray):Bool:=decide (lY s<0)
end
section
open Go
def ek(c:Nat):Nat:=if 97≤c∧c≤122 then 1 else if 65≤c∧c≤90 then 2 else if 48≤c∧c≤57 then 3 else if c=95 then 4 else 0
def lZ(c:UInt8):Bool:=decide (ek c.toNat=1∨ek c.toNat=2)
def ri(c:UInt8):Bool:=decide (ek c.toNat≠0)
def EJ(l:List UInt8):Bool:=match l with| []=>false|c::_=>lZ c
def bE(l:List UInt8):Bool:=decide (1≤l.length∧l.length≤40) &&EJ l&&l.all ri
def kE:List UInt8→List (List UInt8)
 | []=>[[]]
 |c::r=>if c=46 then[]::kE r else match kE r with|p::ps=>(c::p)::ps| []=>[[c]]
theorem tg(l:List UInt8):kE l≠ []:=by
 cases l with
 |nil=>simp[kE]
 |cons c r=>unfold kE;split<;>(try split)<;>simp
def cN(l:List UInt8):Bool:=decide (l.length≤120) && (kE l).all bE
def jx(acc:List UInt8):List UInt8→Bool
 | []=>bE acc
 |c::r=>if c=46 then bE acc&&jx [] r else jx (acc++[c]) r
theorem nL:∀ (l acc:List UInt8),jx acc l=match kE l with|p::ps=>bE (acc++p) &&ps.all bE| []=>true
 | [],acc=>by simp[jx,kE]
 |c::r,acc=>by
  unfold jx kE
  by_cases h:c=46
  · rw[if_pos h,if_pos h,nL r []]
    cases hd:kE r with
    |nil=>exact absurd hd (tg r)
    |cons p ps=>simp
  · rw[if_neg h,if_neg h,nL r _]
    cases hd:kE r with
    |nil=>exact absurd hd (tg r)
    |cons p ps=>simp
theorem yB(l:List UInt8):jx [] l=(kE l).all bE:=by
 rw[nL]
 cases hd:kE l with
 |nil=>exact absurd hd (tg l)
 |cons p ps=>simp
theorem pG:∀ (l:List UInt8),Lib.splitK [46] 0 (l.count 46) l=kE l
 | []=>rfl
 |c::r=>by
  have ih:=pG r
  by_cases h:c=46
  · subst h
    have hix:Lib.index (46::r) [46]=0:=by rw[Lib.index_one,Lib.indexByte];rfl
    rw[List.count_cons_self,Lib.splitK,hix]
    simp[kE,ih]
  · have hc:(c::r).count 46=r.count 46:=List.count_cons_of_ne (by simpa using h)
    have hix:Lib.index (c::r) [46]=if Lib.index r [46]= -1 then -1 else Lib.index r [46]+1:=by
     rw[Lib.index_one,Lib.index_one]
     rw[Lib.indexByte]
     simp only[beq_iff_eq,if_neg h]
    rw[hc,kE,if_neg h,←ih]
    cases hk:r.count 46 with
    |zero=>rfl
    |succ k=>
     have hge:=Lib.index_ge r [46]
     have hne:Lib.index r [46] ≠ -1:=by
      intro e
      have:=Lib.count_miss e
      rw[Lib.count_one,hk]at this
      omega
     obtain⟨i,hi⟩:∃i:Nat,Lib.index r [46]=i:=⟨(Lib.index r [46]).toNat,by omega⟩
     rw[Lib.splitK,Lib.splitK,hix,hi]
     rw[if_neg (show¬ ((i:Int)= -1)by omega)]
     rw[if_neg (show¬ (((i:Int)+1== -1)=true)by rw[beq_iff_eq];omega),if_neg (show¬ (((i:Int)== -1)=true)by rw[beq_iff_eq];omega)]
     have e1:(((i:Int)+1).toNat+0)=i+1:=by omega
     have e2:(((i:Int)+1).toNat+[(46:UInt8)].length)=i+1+1:=by simp only[List.length_cons,List.length_nil];omega
     rw[e1,e2]
     simp
theorem wn(s:ByteArray):(Lib.splitB ⟨#[46]⟩ 0 (Lib.countB s ⟨#[46]⟩) s).map (·.data.toList)=kE s.data.toList:=by
 rw[Lib.splitB_data,←pG]
 have:Lib.countB s ⟨#[46]⟩=s.data.toList.count 46:=by
  unfold Lib.countB;exact Lib.count_one 46 _
 rw[this]
theorem EL(l:List UInt8)(h:128≤dA l 0):128≤(pE l).1:=by
 unfold pE
 rw[if_neg (by omega)]
 (repeat' split)<;>simp_all<;>omega
theorem CX(l:List UInt8)(h:dA l 0<128):pE l=(dA l 0,1):=by unfold pE;rw[if_pos (by omega)]
theorem uf{c:Nat}(h:128≤c):ek c=0:=by unfold ek;rw[if_neg (by omega),if_neg (by omega),if_neg (by omega),if_neg (by omega)]
theorem nM{l:List UInt8}{k:Nat}(h:k<l.length)(hg:ri l[k]=false):bE l=false:=by
 unfold bE
 have:l.all ri=false:=by
  rw[List.all_eq_false]
  exact⟨l[k],List.getElem_mem h,by simp[hg]⟩
 rw[this,Bool.and_false]
theorem iX{l:List UInt8}(h:0<l.length)(hg:lZ l[0]=false):bE l=false:=by
 unfold bE
 cases l with
 |nil=>simp at h
 |cons c r=>rw[show EJ (c::r)=lZ c from rfl];simp at hg;simp[hg]
theorem nN{l:List UInt8}(hg:∀k (h:k<l.length),ri l[k]=true)(h0:∀ (h:0<l.length),lZ l[0]=true):bE l=decide (1≤l.length∧l.length≤40):=by
 unfold bE
 have:l.all ri=true:=by
  rw[List.all_eq_true]
  intro x hx
  obtain⟨k,hk,rfl⟩:=List.mem_iff_getElem.1 hx
  exact hg k hk
 rw[this,Bool.and_true]
 cases l with
 |nil=>simp
 |cons c r=>rw[show EJ (c::r)=lZ c from rfl,show lZ c=true from h0 (by simp),Bool.and_true]
end
end Go.Proofs.YthiocbcokfondaaGreatDoor
