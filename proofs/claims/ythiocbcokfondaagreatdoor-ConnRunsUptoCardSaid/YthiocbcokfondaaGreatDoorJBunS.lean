import Derived.Test.YthiocbcokfondaaGreatDoorJBunU
import Derived.Test.YthiocbcokfondaaGreatDoorJShelf
import Derived.WalkKit
import Derived.WalkSpells
import Derived.WalkLawsBesides
import Derived.Lib.Hide
import Derived.Lib.OthersKept
import Derived.WalkSmall
import Derived.Below
import Derived.Test.YthiocbcokfondaaGreatDoorJBunV
import Derived.Test.YthiocbcokfondaaGreatDoorJBunG
import GoSem.Op.String
set_option maxRecDepth 100000
set_option maxHeartbeats 32000000
namespace Go.Proofs.YthiocbcokfondaaGreatDoor
section
open Go.RowKit
theorem eO(s:ByteArray){i k:Nat}(h:i+k<s.size):(s[i+k].toNat:Nat)=dA (s.data.toList.drop i) k:=by
 rw[←AN]
 congr 1
 show s.data[i+k]=s.data[i+k]!
 rw[getElem!_pos]
theorem aE{a b:Bool}(h:a=b):Ending.returned (.bool a)= .returned (.bool b):=by rw[h]
theorem aQ{k:IntKind}{a b:Int}(h:a=b):Ending.returned (.int k a)= .returned (.int k b):=by rw[h]
theorem uz(s:ByteArray)(i lo hi:Nat)(w:World)(_:i≤9223372036854775807)(_:s.size≤9223372036854775807):
 Calls Tryz.prog 217 #[.string s,.int .i64 i,.int .u8 lo,.int .u8 hi] w fun e w'=>e= .returned (.bool (rh (s.data.toList.drop i) 0 lo hi))∧w=w':=by
 have hb:=li (s.data.toList.drop i) 0 lo hi
 rw[←lj]at hb
 by_cases h1:i<s.size
 · have ha:=eO s (i:=i) (k:=0) h1
   have HA := Lib.hid (show rh (s.data.toList.drop i) 0 lo hi=(decide (lo≤s[i].toNat) &&decide (s[i].toNat≤hi))by
    rw[Bool.eq_iff_iff,hb,←ha];simp[h1])
   clear hb ha
   generalize rh (s.data.toList.drop i) 0 lo hi=R at *
   by_cases h2:lo≤s[i].toNat
   · go_enter Tryz.func217,Tryz.ntmps217
     go_wp2
     go_ret
     refine⟨aE ?_,rfl⟩
     rw[HA.out,decide_eq_true h2,Bool.true_and]
   · go_enter Tryz.func217,Tryz.ntmps217
     go_wp2
     go_ret
     exact⟨aE (by rw[HA.out,decide_eq_false h2];rfl),rfl⟩
 · have HA:=Lib.hid (show rh (s.data.toList.drop i) 0 lo hi=false by rw[Bool.eq_false_iff];intro h;exact h1 (hb.1 h).1)
   clear hb
   go_enter Tryz.func217,Tryz.ntmps217
   go_wp2
   go_ret
   exact⟨aE HA.out.symm,rfl⟩
theorem dC(l:List UInt8)(j k lo hi:Nat):rh (l.drop j) k lo hi=rh l (j+k) lo hi:=by
 unfold rh dA
 rw[List.length_drop,List.getD_eq_getElem?_getD,List.getElem?_drop,List.getD_eq_getElem?_getD]
 congr 2
 rw[decide_eq_decide];omega
theorem ce:∀ (n:Nat) (l:List UInt8) (j k:Nat),dm n (l.drop j) k=dm n l (j+k)
 |0,_,_,_=>rfl
 |n+1,l,j,k=>by rw[dm,dm,dC,ce n,Nat.add_assoc]
theorem pM(s:ByteArray)(i lo hi:Nat)(b:Bool)(w:World)(hi2:i≤9223372036854775807)(hs:s.size≤9223372036854775807)(h:rh (s.data.toList.drop i) 0 lo hi=b):
 Calls Tryz.prog 217 #[.string s,.int .i64 i,.int .u8 lo,.int .u8 hi] w fun e w'=>e= .returned (.bool b)∧w=w':=by
 subst h;exact uz s i lo hi w hi2 hs
theorem AY(s:ByteArray)(i n:Nat)(w:World)(hn:n≤100)(hi2:i≤4611686018427387904)(hs:s.size≤9223372036854775807):
 Calls Tryz.prog 216 #[.string s,.int .i64 i,.int .i64 n] w fun e w'=>e= .returned (.bool (dm n (s.data.toList.drop i) 0))∧w=w':=by
 have HB:=Lib.hid (fun(k:Nat) (b:Bool) (w:World) (hk:k≤100) (h:rh (s.data.toList.drop i) k 128 191=b)=>pM s (i+k) 128 191 b w (by omega) hs (by rw[←List.drop_drop,dC];exact h))
 go_enter Tryz.func216,Tryz.ntmps216
 go_wp2
 go_loop [7] (fun x=> ∃k:Nat,k≤n∧x= .int .i64 k∧dm n (s.data.toList.drop i) 0=dm (n-k) (s.data.toList.drop i) k) (fun x=>n - (intOf x).toNat)
 case atStart=>exact⟨0,Nat.zero_le _,rfl,rfl⟩
 case round=>
  obtain⟨k,hk,rfl,hx⟩:=hrel
  by_cases hlt:k<n
  · rw[show n-k=(n - (k+1))+1 by omega,dm]at hx
    have HX:=Lib.hid hx;clear hx
    cases hb:rh (s.data.toList.drop i) k 128 191 with
    |true=>
     have HC:=Lib.hid (HB.out k true · (by omega) hb)
     have HD:=Lib.hid hb;clear hb
     go_wp2_with fail
     refine(HC.out _).mono ?_;rintro e w1 ⟨rfl,rfl⟩
     go_wp2_with fail
     go_round
     case rel=>exact⟨k+1,hlt,by go_num,by rw[HX.out,HD.out,Bool.true_and]⟩
     case measure=>simp[intOf];omega
    |false=>
     have HC:=Lib.hid (HB.out k false · (by omega) hb)
     have HD:=Lib.hid hb;clear hb
     go_wp2_with fail
     refine(HC.out _).mono ?_;rintro e w1 ⟨rfl,rfl⟩
     go_wp2_with fail
     go_ret
     exact⟨aE (by rw[HX.out,HD.out,Bool.false_and]),rfl⟩
  · have HX:=Lib.hid (show dm n (s.data.toList.drop i) 0=true by rw[hx,show n-k=0 by omega];rfl)
    clear hx
    go_wp2_with fail
    go_ret
    exact⟨aE HX.out.symm,rfl⟩
theorem C1(s:ByteArray)(i n:Nat)(b:Bool)(w:World)(hn:n≤100)(hi2:i≤4611686018427387904)(hs:s.size≤9223372036854775807)(h:dm n (s.data.toList.drop i) 0=b):
 Calls Tryz.prog 216 #[.string s,.int .i64 i,.int .i64 n] w fun e w'=>e= .returned (.bool b)∧w=w':=by
 subst h;exact AY s i n w hn hi2 hs
theorem dO(s:ByteArray)(I N:Int)(i n:Nat)(b:Bool)(w:World)(hI:I=i)(hN:N=n)(hn:n≤100)(hi2:i≤4611686018427387904)(hs:s.size≤9223372036854775807)(h:dm n (s.data.toList.drop i) 0=b):
 Calls Tryz.prog 216 #[.string s,.int .i64 I,.int .i64 N] w fun e w'=>e= .returned (.bool b)∧w=w':=by
 subst hI;subst hN;exact C1 s i n b w hn hi2 hs h
theorem di(s:ByteArray)(I L H:Int)(i lo hi:Nat)(b:Bool)(w:World)(hI:I=i)(hL:L=lo)(hH:H=hi)(hi2:i≤9223372036854775807)(hs:s.size≤9223372036854775807)(h:rh (s.data.toList.drop i) 0 lo hi=b):
 Calls Tryz.prog 217 #[.string s,.int .i64 I,.int .u8 L,.int .u8 H] w fun e w'=>e= .returned (.bool b)∧w=w':=by
 subst hI;subst hL;subst hH;exact pM s i lo hi b w hi2 hs h
theorem aB{a c:Int}(h:a≠c):(a==c)=false∧(a !=c)=true:=by
 have:(a==c)=false:=by simpa using h
 exact⟨this,by rw[bne,this];rfl⟩
theorem kI{a c:Int}(h:a=c):(a==c)=true∧(a !=c)=false:=by
 have:(a==c)=true:=by simpa using h
 exact⟨this,by rw[bne,this];rfl⟩
theorem C2(s:ByteArray)(i:Nat)(w:World)(h:i<s.size)(hs:s.size≤4611686018427387900)(hr:0≤s[i].toNat∧s[i].toNat<128):
 Calls Tryz.prog 211 #[.string s,.int .i64 i] w fun e w'=>e= .returned (.int .i64 (ew (s.data.toList.drop i)))∧w=w':=by
 have ha:s[i].toNat=dA (s.data.toList.drop i) 0:=eO s (i:=i) (k:=0) h
 have hib:i≤4611686018427387900:=by omega
 have HS:=Lib.hid hs;clear hs
 obtain⟨hq224,hn224⟩:=aB (show(s[i].toNat:Int) ≠224 by omega)
 obtain⟨hq237,hn237⟩:=aB (show(s[i].toNat:Int) ≠237 by omega)
 obtain⟨hq240,hn240⟩:=aB (show(s[i].toNat:Int) ≠240 by omega)
 obtain⟨hq244,hn244⟩:=aB (show(s[i].toNat:Int) ≠244 by omega)
 have hr2:=hr
 obtain⟨hr3,hr4⟩:=hr2
 have HZ0:ew (s.data.toList.drop i)=1:=by
  unfold ew
  repeat' split
  all_goals omega
 have HZ:=Lib.hid HZ0;clear HZ0
 clear ha hr
 go_enter Tryz.func211,Tryz.ntmps211
 go_wp2_with fail
 go_ret
 exact⟨aQ (by rw[HZ.out];rfl),rfl⟩
theorem C3(s:ByteArray)(i:Nat)(w:World)(h:i<s.size)(hs:s.size≤4611686018427387900)(hr:128≤s[i].toNat∧s[i].toNat<194):
 Calls Tryz.prog 211 #[.string s,.int .i64 i] w fun e w'=>e= .returned (.int .i64 (ew (s.data.toList.drop i)))∧w=w':=by
 have ha:s[i].toNat=dA (s.data.toList.drop i) 0:=eO s (i:=i) (k:=0) h
 have hib:i≤4611686018427387900:=by omega
 have HS:=Lib.hid hs;clear hs
 obtain⟨hq224,hn224⟩:=aB (show(s[i].toNat:Int) ≠224 by omega)
 obtain⟨hq237,hn237⟩:=aB (show(s[i].toNat:Int) ≠237 by omega)
 obtain⟨hq240,hn240⟩:=aB (show(s[i].toNat:Int) ≠240 by omega)
 obtain⟨hq244,hn244⟩:=aB (show(s[i].toNat:Int) ≠244 by omega)
 have hr2:=hr
 obtain⟨hr3,hr4⟩:=hr2
 have HZ0:ew (s.data.toList.drop i)=0:=by
  unfold ew
  repeat' split
  all_goals omega
 have HZ:=Lib.hid HZ0;clear HZ0
 clear ha hr
 go_enter Tryz.func211,Tryz.ntmps211
 go_wp2_with fail
 go_ret
 exact⟨aQ (by rw[HZ.out];rfl),rfl⟩
theorem C4(s:ByteArray)(i:Nat)(w:World)(h:i<s.size)(hs:s.size≤4611686018427387900)(hr:194≤s[i].toNat∧s[i].toNat≤223):
 Calls Tryz.prog 211 #[.string s,.int .i64 i] w fun e w'=>e= .returned (.int .i64 (ew (s.data.toList.drop i)))∧w=w':=by
 have ha:s[i].toNat=dA (s.data.toList.drop i) 0:=eO s (i:=i) (k:=0) h
 have hib:i≤4611686018427387900:=by omega
 have HS:=Lib.hid hs;clear hs
 obtain⟨hq224,hn224⟩:=aB (show(s[i].toNat:Int) ≠224 by omega)
 obtain⟨hq237,hn237⟩:=aB (show(s[i].toNat:Int) ≠237 by omega)
 obtain⟨hq240,hn240⟩:=aB (show(s[i].toNat:Int) ≠240 by omega)
 obtain⟨hq244,hn244⟩:=aB (show(s[i].toNat:Int) ≠244 by omega)
 have hr2:=hr
 obtain⟨hr3,hr4⟩:=hr2
 cases ht:dm 1 (s.data.toList.drop i) 1 with
 |true=>
  have HZ0:ew (s.data.toList.drop i)=2:=by
   unfold ew
   simp[ht]
   repeat' split
   all_goals omega
  have HZ:=Lib.hid HZ0;clear HZ0
  have HT:=Lib.hid (fun w=>dO s ((i:Int)+1) 1 (i+1) 1 true w (by omega) rfl (by omega) (by have:=HS.out;omega) (by have:=HS.out;omega) (by rw[←List.drop_drop,ce];exact ht))
  clear ha hr ht
  go_enter Tryz.func211,Tryz.ntmps211
  go_wp2_with fail
  refine(HT.out _).mono ?_;rintro e w1 ⟨rfl,rfl⟩
  go_wp2_with fail
  go_ret
  exact⟨aQ (by rw[HZ.out];rfl),rfl⟩
 |false=>
  have HZ0:ew (s.data.toList.drop i)=0:=by
   unfold ew
   simp[ht]
   repeat' split
   all_goals omega
  have HZ:=Lib.hid HZ0;clear HZ0
  have HT:=Lib.hid (fun w=>dO s ((i:Int)+1) 1 (i+1) 1 false w (by omega) rfl (by omega) (by have:=HS.out;omega) (by have:=HS.out;omega) (by rw[←List.drop_drop,ce];exact ht))
  clear ha hr ht
  go_enter Tryz.func211,Tryz.ntmps211
  go_wp2_with fail
  refine(HT.out _).mono ?_;rintro e w1 ⟨rfl,rfl⟩
  go_wp2_with fail
  go_ret
  exact⟨aQ (by rw[HZ.out];rfl),rfl⟩
theorem C5(s:ByteArray)(i:Nat)(w:World)(h:i<s.size)(hs:s.size≤4611686018427387900)(hr:s[i].toNat=224):
 Calls Tryz.prog 211 #[.string s,.int .i64 i] w fun e w'=>e= .returned (.int .i64 (ew (s.data.toList.drop i)))∧w=w':=by
 have ha:s[i].toNat=dA (s.data.toList.drop i) 0:=eO s (i:=i) (k:=0) h
 have hib:i≤4611686018427387900:=by omega
 have HS:=Lib.hid hs;clear hs
 obtain⟨hq224,hn224⟩:=kI (show(s[i].toNat:Int)=224 by omega)
 obtain⟨hq237,hn237⟩:=aB (show(s[i].toNat:Int) ≠237 by omega)
 obtain⟨hq240,hn240⟩:=aB (show(s[i].toNat:Int) ≠240 by omega)
 obtain⟨hq244,hn244⟩:=aB (show(s[i].toNat:Int) ≠244 by omega)
 have hr2:  224≤s[i].toNat∧s[i].toNat≤  224:=by omega
 obtain⟨hr3,hr4⟩:=hr2
 cases hb:rh (s.data.toList.drop i) 1 160 191 with
 |false=>
  have HZ0:ew (s.data.toList.drop i)=0:=by
   unfold ew
   simp[hb]
   repeat' split
   all_goals omega
  have HZ:=Lib.hid HZ0;clear HZ0
  have HB:=Lib.hid (fun w=>di s ((i:Int)+1) 160 191 (i+1) 160 191 false w (by omega) J J (by have:=HS.out;omega) (by have:=HS.out;omega) (by rw[←List.drop_drop,dC];exact hb))
  clear ha hr hb
  go_enter Tryz.func211,Tryz.ntmps211
  go_wp2_with fail
  refine(HB.out _).mono ?_;rintro e w1 ⟨rfl,rfl⟩
  go_wp2_with fail
  go_ret
  exact⟨aQ (by rw[HZ.out];rfl),rfl⟩
 |true=>
  cases ht:dm 1 (s.data.toList.drop i) 2 with
  |true=>
   have HZ0:ew (s.data.toList.drop i)=3:=by
    unfold ew
    simp[hb,ht]
    repeat' split
    all_goals omega
   have HZ:=Lib.hid HZ0;clear HZ0
   have HB:=Lib.hid (fun w=>di s ((i:Int)+1) 160 191 (i+1) 160 191 true w (by omega) J J (by have:=HS.out;omega) (by have:=HS.out;omega) (by rw[←List.drop_drop,dC];exact hb))
   have HT:=Lib.hid (fun w=>dO s ((i:Int)+2) 1 (i+2) 1 true w (by omega) rfl (by omega) (by have:=HS.out;omega) (by have:=HS.out;omega) (by rw[←List.drop_drop,ce];exact ht))
   clear ha hr hb ht
   go_enter Tryz.func211,Tryz.ntmps211
   go_wp2_with fail
   refine(HB.out _).mono ?_;rintro e w1 ⟨rfl,rfl⟩
   go_wp2_with fail
   refine(HT.out _).mono ?_;rintro e w1 ⟨rfl,rfl⟩
   go_wp2_with fail
   go_ret
   exact⟨aQ (by rw[HZ.out];rfl),rfl⟩
  |false=>
   have HZ0:ew (s.data.toList.drop i)=0:=by
    unfold ew
    simp[hb,ht]
    repeat' split
    all_goals omega
   have HZ:=Lib.hid HZ0;clear HZ0
   have HB:=Lib.hid (fun w=>di s ((i:Int)+1) 160 191 (i+1) 160 191 true w (by omega) J J (by have:=HS.out;omega) (by have:=HS.out;omega) (by rw[←List.drop_drop,dC];exact hb))
   have HT:=Lib.hid (fun w=>dO s ((i:Int)+2) 1 (i+2) 1 false w (by omega) rfl (by omega) (by have:=HS.out;omega) (by have:=HS.out;omega) (by rw[←List.drop_drop,ce];exact ht))
   clear ha hr hb ht
   go_enter Tryz.func211,Tryz.ntmps211
   go_wp2_with fail
   refine(HB.out _).mono ?_;rintro e w1 ⟨rfl,rfl⟩
   go_wp2_with fail
   refine(HT.out _).mono ?_;rintro e w1 ⟨rfl,rfl⟩
   go_wp2_with fail
   go_ret
   exact⟨aQ (by rw[HZ.out];rfl),rfl⟩
theorem C6(s:ByteArray)(i:Nat)(w:World)(h:i<s.size)(hs:s.size≤4611686018427387900)(hr:225≤s[i].toNat∧s[i].toNat≤236):
 Calls Tryz.prog 211 #[.string s,.int .i64 i] w fun e w'=>e= .returned (.int .i64 (ew (s.data.toList.drop i)))∧w=w':=by
 have ha:s[i].toNat=dA (s.data.toList.drop i) 0:=eO s (i:=i) (k:=0) h
 have hib:i≤4611686018427387900:=by omega
 have HS:=Lib.hid hs;clear hs
 obtain⟨hq224,hn224⟩:=aB (show(s[i].toNat:Int) ≠224 by omega)
 obtain⟨hq237,hn237⟩:=aB (show(s[i].toNat:Int) ≠237 by omega)
 obtain⟨hq240,hn240⟩:=aB (show(s[i].toNat:Int) ≠240 by omega)
 obtain⟨hq244,hn244⟩:=aB (show(s[i].toNat:Int) ≠244 by omega)
 have hr2:=hr
 obtain⟨hr3,hr4⟩:=hr2
 cases ht:dm 2 (s.data.toList.drop i) 1 with
 |true=>
  have HZ0:ew (s.data.toList.drop i)=3:=by
   unfold ew
   simp[ht]
   repeat' split
   all_goals omega
  have HZ:=Lib.hid HZ0;clear HZ0
  have HT:=Lib.hid (fun w=>dO s ((i:Int)+1) 2 (i+1) 2 true w (by omega) rfl (by omega) (by have:=HS.out;omega) (by have:=HS.out;omega) (by rw[←List.drop_drop,ce];exact ht))
  clear ha hr ht
  go_enter Tryz.func211,Tryz.ntmps211
  go_wp2_with fail
  refine(HT.out _).mono ?_;rintro e w1 ⟨rfl,rfl⟩
  go_wp2_with fail
  go_ret
  exact⟨aQ (by rw[HZ.out];rfl),rfl⟩
 |false=>
  have HZ0:ew (s.data.toList.drop i)=0:=by
   unfold ew
   simp[ht]
   repeat' split
   all_goals omega
  have HZ:=Lib.hid HZ0;clear HZ0
  have HT:=Lib.hid (fun w=>dO s ((i:Int)+1) 2 (i+1) 2 false w (by omega) rfl (by omega) (by have:=HS.out;omega) (by have:=HS.out;omega) (by rw[←List.drop_drop,ce];exact ht))
  clear ha hr ht
  go_enter Tryz.func211,Tryz.ntmps211
  go_wp2_with fail
  refine(HT.out _).mono ?_;rintro e w1 ⟨rfl,rfl⟩
  go_wp2_with fail
  go_ret
  exact⟨aQ (by rw[HZ.out];rfl),rfl⟩
theorem C7(s:ByteArray)(i:Nat)(w:World)(h:i<s.size)(hs:s.size≤4611686018427387900)(hr:s[i].toNat=237):
 Calls Tryz.prog 211 #[.string s,.int .i64 i] w fun e w'=>e= .returned (.int .i64 (ew (s.data.toList.drop i)))∧w=w':=by
 have ha:s[i].toNat=dA (s.data.toList.drop i) 0:=eO s (i:=i) (k:=0) h
 have hib:i≤4611686018427387900:=by omega
 have HS:=Lib.hid hs;clear hs
 obtain⟨hq224,hn224⟩:=aB (show(s[i].toNat:Int) ≠224 by omega)
 obtain⟨hq237,hn237⟩:=kI (show(s[i].toNat:Int)=237 by omega)
 obtain⟨hq240,hn240⟩:=aB (show(s[i].toNat:Int) ≠240 by omega)
 obtain⟨hq244,hn244⟩:=aB (show(s[i].toNat:Int) ≠244 by omega)
 have hr2:  237≤s[i].toNat∧s[i].toNat≤  237:=by omega
 obtain⟨hr3,hr4⟩:=hr2
 cases hb:rh (s.data.toList.drop i) 1 128 159 with
 |false=>
  have HZ0:ew (s.data.toList.drop i)=0:=by
   unfold ew
   simp[hb]
   repeat' split
   all_goals omega
  have HZ:=Lib.hid HZ0;clear HZ0
  have HB:=Lib.hid (fun w=>di s ((i:Int)+1) 128 159 (i+1) 128 159 false w (by omega) J J (by have:=HS.out;omega) (by have:=HS.out;omega) (by rw[←List.drop_drop,dC];exact hb))
  clear ha hr hb
  go_enter Tryz.func211,Tryz.ntmps211
  go_wp2_with fail
  refine(HB.out _).mono ?_;rintro e w1 ⟨rfl,rfl⟩
  go_wp2_with fail
  go_ret
  exact⟨aQ (by rw[HZ.out];rfl),rfl⟩
 |true=>
  cases ht:dm 1 (s.data.toList.drop i) 2 with
  |true=>
   have HZ0:ew (s.data.toList.drop i)=3:=by
    unfold ew
    simp[hb,ht]
    repeat' split
    all_goals omega
   have HZ:=Lib.hid HZ0;clear HZ0
   have HB:=Lib.hid (fun w=>di s ((i:Int)+1) 128 159 (i+1) 128 159 true w (by omega) J J (by have:=HS.out;omega) (by have:=HS.out;omega) (by rw[←List.drop_drop,dC];exact hb))
   have HT:=Lib.hid (fun w=>dO s ((i:Int)+2) 1 (i+2) 1 true w (by omega) rfl (by omega) (by have:=HS.out;omega) (by have:=HS.out;omega) (by rw[←List.drop_drop,ce];exact ht))
   clear ha hr hb ht
   go_enter Tryz.func211,Tryz.ntmps211
   go_wp2_with fail
   refine(HB.out _).mono ?_;rintro e w1 ⟨rfl,rfl⟩
   go_wp2_with fail
   refine(HT.out _).mono ?_;rintro e w1 ⟨rfl,rfl⟩
   go_wp2_with fail
   go_ret
   exact⟨aQ (by rw[HZ.out];rfl),rfl⟩
  |false=>
   have HZ0:ew (s.data.toList.drop i)=0:=by
    unfold ew
    simp[hb,ht]
    repeat' split
    all_goals omega
   have HZ:=Lib.hid HZ0;clear HZ0
   have HB:=Lib.hid (fun w=>di s ((i:Int)+1) 128 159 (i+1) 128 159 true w (by omega) J J (by have:=HS.out;omega) (by have:=HS.out;omega) (by rw[←List.drop_drop,dC];exact hb))
   have HT:=Lib.hid (fun w=>dO s ((i:Int)+2) 1 (i+2) 1 false w (by omega) rfl (by omega) (by have:=HS.out;omega) (by have:=HS.out;omega) (by rw[←List.drop_drop,ce];exact ht))
   clear ha hr hb ht
   go_enter Tryz.func211,Tryz.ntmps211
   go_wp2_with fail
   refine(HB.out _).mono ?_;rintro e w1 ⟨rfl,rfl⟩
   go_wp2_with fail
   refine(HT.out _).mono ?_;rintro e w1 ⟨rfl,rfl⟩
   go_wp2_with fail
   go_ret
   exact⟨aQ (by rw[HZ.out];rfl),rfl⟩
theorem C8(s:ByteArray)(i:Nat)(w:World)(h:i<s.size)(hs:s.size≤4611686018427387900)(hr:238≤s[i].toNat∧s[i].toNat≤239):
 Calls Tryz.prog 211 #[.string s,.int .i64 i] w fun e w'=>e= .returned (.int .i64 (ew (s.data.toList.drop i)))∧w=w':=by
 have ha:s[i].toNat=dA (s.data.toList.drop i) 0:=eO s (i:=i) (k:=0) h
 have hib:i≤4611686018427387900:=by omega
 have HS:=Lib.hid hs;clear hs
 obtain⟨hq224,hn224⟩:=aB (show(s[i].toNat:Int) ≠224 by omega)
 obtain⟨hq237,hn237⟩:=aB (show(s[i].toNat:Int) ≠237 by omega)
 obtain⟨hq240,hn240⟩:=aB (show(s[i].toNat:Int) ≠240 by omega)
 obtain⟨hq244,hn244⟩:=aB (show(s[i].toNat:Int) ≠244 by omega)
 have hr2:=hr
 obtain⟨hr3,hr4⟩:=hr2
 cases ht:dm 2 (s.data.toList.drop i) 1 with
 |true=>
  have HZ0:ew (s.data.toList.drop i)=3:=by
   unfold ew
   simp[ht]
   repeat' split
   all_goals omega
  have HZ:=Lib.hid HZ0;clear HZ0
  have HT:=Lib.hid (fun w=>dO s ((i:Int)+1) 2 (i+1) 2 true w (by omega) rfl (by omega) (by have:=HS.out;omega) (by have:=HS.out;omega) (by rw[←List.drop_drop,ce];exact ht))
  clear ha hr ht
  go_enter Tryz.func211,Tryz.ntmps211
  go_wp2_with fail
  refine(HT.out _).mono ?_;rintro e w1 ⟨rfl,rfl⟩
  go_wp2_with fail
  go_ret
  exact⟨aQ (by rw[HZ.out];rfl),rfl⟩
 |false=>
  have HZ0:ew (s.data.toList.drop i)=0:=by
   unfold ew
   simp[ht]
   repeat' split
   all_goals omega
  have HZ:=Lib.hid HZ0;clear HZ0
  have HT:=Lib.hid (fun w=>dO s ((i:Int)+1) 2 (i+1) 2 false w (by omega) rfl (by omega) (by have:=HS.out;omega) (by have:=HS.out;omega) (by rw[←List.drop_drop,ce];exact ht))
  clear ha hr ht
  go_enter Tryz.func211,Tryz.ntmps211
  go_wp2_with fail
  refine(HT.out _).mono ?_;rintro e w1 ⟨rfl,rfl⟩
  go_wp2_with fail
  go_ret
  exact⟨aQ (by rw[HZ.out];rfl),rfl⟩
theorem C9(s:ByteArray)(i:Nat)(w:World)(h:i<s.size)(hs:s.size≤4611686018427387900)(hr:s[i].toNat=240):
 Calls Tryz.prog 211 #[.string s,.int .i64 i] w fun e w'=>e= .returned (.int .i64 (ew (s.data.toList.drop i)))∧w=w':=by
 have ha:s[i].toNat=dA (s.data.toList.drop i) 0:=eO s (i:=i) (k:=0) h
 have hib:i≤4611686018427387900:=by omega
 have HS:=Lib.hid hs;clear hs
 obtain⟨hq224,hn224⟩:=aB (show(s[i].toNat:Int) ≠224 by omega)
 obtain⟨hq237,hn237⟩:=aB (show(s[i].toNat:Int) ≠237 by omega)
 obtain⟨hq240,hn240⟩:=kI (show(s[i].toNat:Int)=240 by omega)
 obtain⟨hq244,hn244⟩:=aB (show(s[i].toNat:Int) ≠244 by omega)
 have hr2:  240≤s[i].toNat∧s[i].toNat≤  240:=by omega
 obtain⟨hr3,hr4⟩:=hr2
 cases hb:rh (s.data.toList.drop i) 1 144 191 with
 |false=>
  have HZ0:ew (s.data.toList.drop i)=0:=by
   unfold ew
   simp[hb]
   repeat' split
   all_goals omega
  have HZ:=Lib.hid HZ0;clear HZ0
  have HB:=Lib.hid (fun w=>di s ((i:Int)+1) 144 191 (i+1) 144 191 false w (by omega) J J (by have:=HS.out;omega) (by have:=HS.out;omega) (by rw[←List.drop_drop,dC];exact hb))
  clear ha hr hb
  go_enter Tryz.func211,Tryz.ntmps211
  go_wp2_with fail
  refine(HB.out _).mono ?_;rintro e w1 ⟨rfl,rfl⟩
  go_wp2_with fail
  go_ret
  exact⟨aQ (by rw[HZ.out];rfl),rfl⟩
 |true=>
  cases ht:dm 2 (s.data.toList.drop i) 2 with
  |true=>
   have HZ0:ew (s.data.toList.drop i)=4:=by
    unfold ew
    simp[hb,ht]
    repeat' split
    all_goals omega
   have HZ:=Lib.hid HZ0;clear HZ0
   have HB:=Lib.hid (fun w=>di s ((i:Int)+1) 144 191 (i+1) 144 191 true w (by omega) J J (by have:=HS.out;omega) (by have:=HS.out;omega) (by rw[←List.drop_drop,dC];exact hb))
   have HT:=Lib.hid (fun w=>dO s ((i:Int)+2) 2 (i+2) 2 true w (by omega) rfl (by omega) (by have:=HS.out;omega) (by have:=HS.out;omega) (by rw[←List.drop_drop,ce];exact ht))
   clear ha hr hb ht
   go_enter Tryz.func211,Tryz.ntmps211
   go_wp2_with fail
   refine(HB.out _).mono ?_;rintro e w1 ⟨rfl,rfl⟩
   go_wp2_with fail
   refine(HT.out _).mono ?_;rintro e w1 ⟨rfl,rfl⟩
   go_wp2_with fail
   go_ret
   exact⟨aQ (by rw[HZ.out];rfl),rfl⟩
  |false=>
   have HZ0:ew (s.data.toList.drop i)=0:=by
    unfold ew
    simp[hb,ht]
    repeat' split
    all_goals omega
   have HZ:=Lib.hid HZ0;clear HZ0
   have HB:=Lib.hid (fun w=>di s ((i:Int)+1) 144 191 (i+1) 144 191 true w (by omega) J J (by have:=HS.out;omega) (by have:=HS.out;omega) (by rw[←List.drop_drop,dC];exact hb))
   have HT:=Lib.hid (fun w=>dO s ((i:Int)+2) 2 (i+2) 2 false w (by omega) rfl (by omega) (by have:=HS.out;omega) (by have:=HS.out;omega) (by rw[←List.drop_drop,ce];exact ht))
   clear ha hr hb ht
   go_enter Tryz.func211,Tryz.ntmps211
   go_wp2_with fail
   refine(HB.out _).mono ?_;rintro e w1 ⟨rfl,rfl⟩
   go_wp2_with fail
   refine(HT.out _).mono ?_;rintro e w1 ⟨rfl,rfl⟩
   go_wp2_with fail
   go_ret
   exact⟨aQ (by rw[HZ.out];rfl),rfl⟩
theorem Da(s:ByteArray)(i:Nat)(w:World)(h:i<s.size)(hs:s.size≤4611686018427387900)(hr:241≤s[i].toNat∧s[i].toNat≤243):
 Calls Tryz.prog 211 #[.string s,.int .i64 i] w fun e w'=>e= .returned (.int .i64 (ew (s.data.toList.drop i)))∧w=w':=by
 have ha:s[i].toNat=dA (s.data.toList.drop i) 0:=eO s (i:=i) (k:=0) h
 have hib:i≤4611686018427387900:=by omega
 have HS:=Lib.hid hs;clear hs
 obtain⟨hq224,hn224⟩:=aB (show(s[i].toNat:Int) ≠224 by omega)
 obtain⟨hq237,hn237⟩:=aB (show(s[i].toNat:Int) ≠237 by omega)
 obtain⟨hq240,hn240⟩:=aB (show(s[i].toNat:Int) ≠240 by omega)
 obtain⟨hq244,hn244⟩:=aB (show(s[i].toNat:Int) ≠244 by omega)
 have hr2:=hr
 obtain⟨hr3,hr4⟩:=hr2
 cases ht:dm 3 (s.data.toList.drop i) 1 with
 |true=>
  have HZ0:ew (s.data.toList.drop i)=4:=by
   unfold ew
   simp[ht]
   repeat' split
   all_goals omega
  have HZ:=Lib.hid HZ0;clear HZ0
  have HT:=Lib.hid (fun w=>dO s ((i:Int)+1) 3 (i+1) 3 true w (by omega) rfl (by omega) (by have:=HS.out;omega) (by have:=HS.out;omega) (by rw[←List.drop_drop,ce];exact ht))
  clear ha hr ht
  go_enter Tryz.func211,Tryz.ntmps211
  go_wp2_with fail
  refine(HT.out _).mono ?_;rintro e w1 ⟨rfl,rfl⟩
  go_wp2_with fail
  go_ret
  exact⟨aQ (by rw[HZ.out];rfl),rfl⟩
 |false=>
  have HZ0:ew (s.data.toList.drop i)=0:=by
   unfold ew
   simp[ht]
   repeat' split
   all_goals omega
  have HZ:=Lib.hid HZ0;clear HZ0
  have HT:=Lib.hid (fun w=>dO s ((i:Int)+1) 3 (i+1) 3 false w (by omega) rfl (by omega) (by have:=HS.out;omega) (by have:=HS.out;omega) (by rw[←List.drop_drop,ce];exact ht))
  clear ha hr ht
  go_enter Tryz.func211,Tryz.ntmps211
  go_wp2_with fail
  refine(HT.out _).mono ?_;rintro e w1 ⟨rfl,rfl⟩
  go_wp2_with fail
  go_ret
  exact⟨aQ (by rw[HZ.out];rfl),rfl⟩
theorem Db(s:ByteArray)(i:Nat)(w:World)(h:i<s.size)(hs:s.size≤4611686018427387900)(hr:s[i].toNat=244):
 Calls Tryz.prog 211 #[.string s,.int .i64 i] w fun e w'=>e= .returned (.int .i64 (ew (s.data.toList.drop i)))∧w=w':=by
 have ha:s[i].toNat=dA (s.data.toList.drop i) 0:=eO s (i:=i) (k:=0) h
 have hib:i≤4611686018427387900:=by omega
 have HS:=Lib.hid hs;clear hs
 obtain⟨hq224,hn224⟩:=aB (show(s[i].toNat:Int) ≠224 by omega)
 obtain⟨hq237,hn237⟩:=aB (show(s[i].toNat:Int) ≠237 by omega)
 obtain⟨hq240,hn240⟩:=aB (show(s[i].toNat:Int) ≠240 by omega)
 obtain⟨hq244,hn244⟩:=kI (show(s[i].toNat:Int)=244 by omega)
 have hr2:  244≤s[i].toNat∧s[i].toNat≤  244:=by omega
 obtain⟨hr3,hr4⟩:=hr2
 cases hb:rh (s.data.toList.drop i) 1 128 143 with
 |false=>
  have HZ0:ew (s.data.toList.drop i)=0:=by
   unfold ew
   simp[hb]
   repeat' split
   all_goals omega
  have HZ:=Lib.hid HZ0;clear HZ0
  have HB:=Lib.hid (fun w=>di s ((i:Int)+1) 128 143 (i+1) 128 143 false w (by omega) J J (by have:=HS.out;omega) (by have:=HS.out;omega) (by rw[←List.drop_drop,dC];exact hb))
  clear ha hr hb
  go_enter Tryz.func211,Tryz.ntmps211
  go_wp2_with fail
  refine(HB.out _).mono ?_;rintro e w1 ⟨rfl,rfl⟩
  go_wp2_with fail
  go_ret
  exact⟨aQ (by rw[HZ.out];rfl),rfl⟩
 |true=>
  cases ht:dm 2 (s.data.toList.drop i) 2 with
  |true=>
   have HZ0:ew (s.data.toList.drop i)=4:=by
    unfold ew
    simp[hb,ht]
    repeat' split
    all_goals omega
   have HZ:=Lib.hid HZ0;clear HZ0
   have HB:=Lib.hid (fun w=>di s ((i:Int)+1) 128 143 (i+1) 128 143 true w (by omega) J J (by have:=HS.out;omega) (by have:=HS.out;omega) (by rw[←List.drop_drop,dC];exact hb))
   have HT:=Lib.hid (fun w=>dO s ((i:Int)+2) 2 (i+2) 2 true w (by omega) rfl (by omega) (by have:=HS.out;omega) (by have:=HS.out;omega) (by rw[←List.drop_drop,ce];exact ht))
   clear ha hr hb ht
   go_enter Tryz.func211,Tryz.ntmps211
   go_wp2_with fail
   refine(HB.out _).mono ?_;rintro e w1 ⟨rfl,rfl⟩
   go_wp2_with fail
   refine(HT.out _).mono ?_;rintro e w1 ⟨rfl,rfl⟩
   go_wp2_with fail
   go_ret
   exact⟨aQ (by rw[HZ.out];rfl),rfl⟩
  |false=>
   have HZ0:ew (s.data.toList.drop i)=0:=by
    unfold ew
    simp[hb,ht]
    repeat' split
    all_goals omega
   have HZ:=Lib.hid HZ0;clear HZ0
   have HB:=Lib.hid (fun w=>di s ((i:Int)+1) 128 143 (i+1) 128 143 true w (by omega) J J (by have:=HS.out;omega) (by have:=HS.out;omega) (by rw[←List.drop_drop,dC];exact hb))
   have HT:=Lib.hid (fun w=>dO s ((i:Int)+2) 2 (i+2) 2 false w (by omega) rfl (by omega) (by have:=HS.out;omega) (by have:=HS.out;omega) (by rw[←List.drop_drop,ce];exact ht))
   clear ha hr hb ht
   go_enter Tryz.func211,Tryz.ntmps211
   go_wp2_with fail
   refine(HB.out _).mono ?_;rintro e w1 ⟨rfl,rfl⟩
   go_wp2_with fail
   refine(HT.out _).mono ?_;rintro e w1 ⟨rfl,rfl⟩
   go_wp2_with fail
   go_ret
   exact⟨aQ (by rw[HZ.out];rfl),rfl⟩
theorem AZ(s:ByteArray)(i:Nat)(w:World)(h:i<s.size)(hs:s.size≤4611686018427387900)(hr:245≤s[i].toNat):
 Calls Tryz.prog 211 #[.string s,.int .i64 i] w fun e w'=>e= .returned (.int .i64 (ew (s.data.toList.drop i)))∧w=w':=by
 have ha:s[i].toNat=dA (s.data.toList.drop i) 0:=eO s (i:=i) (k:=0) h
 have hib:i≤4611686018427387900:=by omega
 have HS:=Lib.hid hs;clear hs
 obtain⟨hq224,hn224⟩:=aB (show(s[i].toNat:Int) ≠224 by omega)
 obtain⟨hq237,hn237⟩:=aB (show(s[i].toNat:Int) ≠237 by omega)
 obtain⟨hq240,hn240⟩:=aB (show(s[i].toNat:Int) ≠240 by omega)
 obtain⟨hq244,hn244⟩:=aB (show(s[i].toNat:Int) ≠244 by omega)
 have hr3:=hr
 have HZ0:ew (s.data.toList.drop i)=0:=by
  unfold ew
  repeat' split
  all_goals omega
 have HZ:=Lib.hid HZ0;clear HZ0
 clear ha hr
 go_enter Tryz.func211,Tryz.ntmps211
 go_wp2_with fail
 go_ret
 exact⟨aQ (by rw[HZ.out];rfl),rfl⟩
theorem A0(s:ByteArray)(i:Nat)(w:World)(h:i<s.size)(hs:s.size≤4611686018427387900):
 Calls Tryz.prog 211 #[.string s,.int .i64 i] w fun e w'=>e= .returned (.int .i64 (ew (s.data.toList.drop i)))∧w=w':=by
 by_cases h0:0≤s[i].toNat∧s[i].toNat<128
 · exact C2 s i w h hs h0
 by_cases h1:128≤s[i].toNat∧s[i].toNat<194
 · exact C3 s i w h hs h1
 by_cases h2:194≤s[i].toNat∧s[i].toNat≤223
 · exact C4 s i w h hs h2
 by_cases h3:s[i].toNat=224
 · exact C5 s i w h hs h3
 by_cases h4:225≤s[i].toNat∧s[i].toNat≤236
 · exact C6 s i w h hs h4
 by_cases h5:s[i].toNat=237
 · exact C7 s i w h hs h5
 by_cases h6:238≤s[i].toNat∧s[i].toNat≤239
 · exact C8 s i w h hs h6
 by_cases h7:s[i].toNat=240
 · exact C9 s i w h hs h7
 by_cases h8:241≤s[i].toNat∧s[i].toNat≤243
 · exact Da s i w h hs h8
 by_cases h9:s[i].toNat=244
 · exact Db s i w h hs h9
 exact AZ s i w h hs (by omega)
theorem wv(s:ByteArray)(w:World)(hs:s.size≤4611686018427387900):
 Calls Tryz.prog 196 #[.string s] w fun e w'=>e= .returned (.int .i64 (lY s))∧w=w':=by
 have HC:=Lib.hid (fun(i:Nat) w h=>A0 s i w h hs)
 go_enter Tryz.func196,Tryz.ntmps196
 go_wp2
 go_loop [3] (fun x=> ∃k:Nat,k≤s.size∧x= .int .i64 k∧lY s=iW s k) (fun x=>s.size - (intOf x).toNat)
 case atStart=>exact⟨0,Nat.zero_le _,rfl,rfl⟩
 case round=>
  obtain⟨k,hk,rfl,hx⟩:=hrel
  have HX:=Lib.hid hx;clear hx
  by_cases hlt:k<s.size
  · have hzl:=AP (s.data.toList.drop k) (by rw[←lj];exact hlt)
    have hlen:(s.data.toList.drop k).length=s.size-k:=by rw[List.length_drop,Array.length_toList];rfl
    have HCk:=Lib.hid (fun w=>HC.out k w hlt)
    by_cases hz:ew (s.data.toList.drop k)=0
    · have HR:=Lib.hid (show lY s=k by rw[HX.out,oK s k hlt hz])
      rw[hz]at HCk
      have HCk2:=Lib.hid (fun w=>(HCk.out w).mono fun e w' h=>(show e= .returned (.int .i64 0)∧w=w' from h))
      clear hz hzl hlen
      go_wp2_with fail
      refine(HCk2.out _).mono ?_;rintro e w1 ⟨rfl,rfl⟩
      go_wp2_with fail
      go_ret
      exact⟨aQ HR.out.symm,rfl⟩
    · have HR:=Lib.hid (show lY s=iW s (k+ew (s.data.toList.drop k))by rw[HX.out,pF s k hlt hz])
      generalize ew (s.data.toList.drop k)=z at *
      have hz0:((z:Int)==0)=false:=(aB (by omega)).1
      have hz1:k+z≤s.size:=by omega
      have hz2:0<z:=by omega
      clear hz hzl hlen
      go_wp2_with fail
      refine(HCk.out _).mono ?_;rintro e w1 ⟨rfl,rfl⟩
      go_wp2_with fail
      go_round
      case rel=>exact⟨k+z,hz1,by go_num,HR.out⟩
      case measure=>simp[intOf];omega
  · have HR:=Lib.hid (show lY s= -1 by rw[HX.out,rN s k (by omega)])
    go_wp2_with fail
    go_ret
    exact⟨aQ HR.out.symm,rfl⟩
theorem mI(s:ByteArray)(w:World)(hs:s.size≤4611686018427387900):
 Calls Tryz.prog 169 #[.string s] w fun e w'=>e= .returned (.bool (gi s))∧w=w':=by
 have HC:=Lib.hid (fun w=>wv s w hs)
 have HV:=Lib.hid (show gi s=decide (lY s<0)from rfl)
 generalize lY s=B at *
 go_enter Tryz.func169,Tryz.ntmps169
 go_wp2_with fail
 refine(HC.out _).mono ?_;rintro e w1 ⟨rfl,rfl⟩
 go_wp2_with fail
 go_ret
 exact⟨aE HV.out.symm,rfl⟩
theorem yH(s:ByteArray)(i:Nat)(c:Int)(w:World)(hi:i≤s.size)(_:s.size≤4611686018427387900):
 Calls Tryz.prog 210 #[.string s,.int .i64 i,.int .i32 c] w fun e w'=>e= .returned (.bool (decide (c=65533) && !rm (s.data.toList.drop i)))∧w=w':=by
 have he:(s.extract i s.size).data.toList=s.data.toList.drop i:=by
  rw[ByteArray.data_extract,Array.toList_extract,List.extract_eq_take_drop,List.take_of_length_le]
  rw[List.length_drop,Array.length_toList];exact Nat.le_refl _
 have HP := Lib.hid (show∀w,Calls Tryz.prog 215 #[.string (s.extract i s.size),.string ⟨#[239,191,189]⟩] w fun e w'=>e= .returned (.bool (rm (s.data.toList.drop i)))∧w=w' from
  fun w=>(Tryz.strings_HasPrefix _ _ w).mono fun e w' ⟨h1,h2⟩=>⟨by rw[h1,he];rfl,h2.symm⟩)
 clear he
 by_cases hc:c=65533
 · subst hc
   go_enter Tryz.func210,Tryz.ntmps210
   go_wp2_with fail
   refine(HP.out _).mono ?_;rintro e w1 ⟨rfl,rfl⟩
   go_wp2_with fail
   go_ret
   exact⟨aE (by simp),rfl⟩
 · obtain⟨hq,_⟩:=aB hc
   have HR:=Lib.hid (show(decide (c=65533) && !rm (s.data.toList.drop i))=false by rw[decide_eq_false hc];rfl)
   clear hc
   go_enter Tryz.func210,Tryz.ntmps210
   go_wp2_with fail
   go_ret
   exact⟨aE HR.out.symm,rfl⟩
theorem ww(s:ByteArray)(w:World)(hs:s.size≤4611686018427387900):
 Calls Tryz.prog 191 #[.string s] w fun e w'=>e= .returned (.int .i64 (lY s))∧Below w.heap.size w w':=by
 have HS:=Lib.hid hs;clear hs
 go_enter Tryz.func191,Tryz.ntmps191
 go_wp2
 go_loopw [] (fun wr=> ∃pos:Nat,pos≤s.size∧wr.heap[w.heap.size]? =some (.stringIter s pos)∧Below w.heap.size w wr∧lY s=iW s pos) (fun wr=>s.size-wr.iterPos w.heap.size)
 case atStart=>exact⟨0,Nat.zero_le _,World.iter_heap w s 0,(Below.refl _ w).alloc (Nat.le_refl _) _,rfl⟩
 case round=>
  obtain⟨pos,hpos,hit,hbw,hx⟩:=hrel
  have HX:=Lib.hid hx;have HB:=Lib.hid hbw;clear hx hbw
  by_cases hp:pos<s.size
  · have hnx:∀ty,(Instr.next (.pointer (some ⟨w.heap.size,0,none⟩)) true ty).run Tryz.prog wr=_:=fun ty=>Lib.run_next_any_at wr w.heap.size s pos ty hit hp
    have hdz:=EI (s.data.toList.drop pos)
    rw[←lX]at hdz
    have HIT:=Lib.hid (Lib.iterAt_heap wr w.heap.size s pos (pos+(Utf8.decode s pos).2) hit)
    have HB2:=Lib.hid (Lib.below_iterAt HB.out (k:=w.heap.size) (Nat.le_refl _) s (pos+(Utf8.decode s pos).2))
    have HO:=Lib.hid hit;clear hit
    have hzl:=AP (s.data.toList.drop pos) (by rw[←lj];exact hp)
    have hlen:(s.data.toList.drop pos).length=s.size-pos:=by rw[List.length_drop,Array.length_toList];rfl
    have HW:=Lib.hid (fun w c=>yH s pos c w hpos HS.out)
    have HST:=Lib.hid (pF s pos hp)
    have HWR:=Lib.hid (oK s pos hp)
    generalize Utf8.decode s pos=D at *
    obtain⟨dc,dn⟩:=D
    rcases hdz with ⟨hz,hd,hf⟩|⟨hz,hd,hf⟩
    · obtain⟨rfl,rfl⟩:=Prod.mk.inj hd
      have HR:=Lib.hid (show lY s=pos by rw[HX.out,HWR.out hz])
      have HC:=Lib.hid (fun w=>(HW.out w 65533).mono fun e w' h=>(show e= .returned (.bool true)∧w=w' by rw[hf]at h;exact h))
      clear hz hf hzl hlen hd
      go_wp2_with fail
      refine(HC.out _).mono ?_;rintro e w1 ⟨rfl,rfl⟩
      go_wp2_with fail
      go_ret
      exact⟨aQ HR.out.symm,HB2.out⟩
    · have HR:=Lib.hid (show lY s=iW s (pos+dn)by rw[HX.out,HST.out hz];rw[←hd])
      have hw0:(decide ((dc:Int)=65533) && !rm (s.data.toList.drop pos))=false:=by
       rcases hf with h|h
       · rw[decide_eq_false (show¬ (dc:Int)=65533 by have:dc≠65533:=h;omega)];rfl
       · rw[h];simp
      have HC:=Lib.hid (fun w=>(HW.out w dc).mono fun e w' h=>(show e= .returned (.bool false)∧w=w' by rw[hw0]at h;exact h))
      have hz1:pos+dn≤s.size:=by have:dn=_:=hd;omega
      have hz2:0<dn:=by have:dn=_:=hd;omega
      clear hz hf hw0 hzl hlen hd
      go_wp2_with fail
      refine(HC.out _).mono ?_;rintro e w1 ⟨rfl,rfl⟩
      go_wp2_with fail
      go_roundw
      case rel=>exact⟨pos+dn,hz1,HIT.out,HB2.out,HR.out⟩
      case measure=>rw[iterPos_of HIT.out,iterPos_of HO.out];show s.size - (pos+dn)<s.size-pos;omega
  · have hnx:∀ty,(Instr.next (.pointer (some ⟨w.heap.size,0,none⟩)) true ty).run Tryz.prog wr=_:=fun ty=>Lib.run_next_end_at wr w.heap.size s pos ty hit hp
    have HR:=Lib.hid (show lY s= -1 by rw[HX.out,rN s pos (by omega)])
    go_wp2_with fail
    go_ret
    exact⟨aQ HR.out.symm,HB.out⟩
theorem mJ(s:ByteArray)(w:World)(hs:s.size≤4611686018427387900):
 Calls Tryz.prog 161 #[.string s] w fun e w'=>e= .returned (.bool (gi s))∧Below w.heap.size w w':=by
 have HC:=Lib.hid (fun w=>ww s w hs)
 have HV:=Lib.hid (show gi s=decide (lY s<0)from rfl)
 generalize lY s=B at *
 go_enter Tryz.func161,Tryz.ntmps161
 go_wp2_with fail
 refine(HC.out _).mono ?_;rintro e w1 ⟨rfl,hb⟩
 go_wp2_with fail
 go_ret
 exact⟨aE HV.out.symm,hb⟩
end
section
open Go.RowKit
theorem iE{W w1:World}(hb:Below W.heap.size W w1):(∀b o,b<W.heap.size→w1.cell? ⟨b,o,none⟩=W.cell? ⟨b,o,none⟩)∧(∀b o,b<W.heap.size→w1.frozen? ⟨b,o,none⟩=W.frozen? ⟨b,o,none⟩):=
 ⟨fun b o h=>hb.cell (p:=⟨b,o,none⟩) h,fun b o h=>hb.frozen (p:=⟨b,o,none⟩) h⟩
def aP(c:Int)(s:ByteArray):Int:=if c<0∨13<c then 1 else if gi s=false then 7 else if 4096<s.size then 3 else if c=0∧s.size≠0 then 1 else 0
def A1(l:List UInt8)(s:ByteArray):ByteArray:=⟨l.toArray⟩++s
def fc(c:Int)(s:ByteArray):ByteArray:=if aP c s=0 then A1 (bp c.toNat) s else⟨#[]⟩
structure H1 where
 code:Int
 text:ByteArray
 err:Int
def eb(s:ByteArray)(u n:Nat):H1:=
 if n≠(bp u).length then⟨0,⟨#[]⟩,5⟩else if 13<u then⟨0,⟨#[]⟩,6⟩
 else if aP u (s.extract n s.size)=0 then⟨u,s.extract n s.size,0⟩else⟨0,⟨#[]⟩,aP u (s.extract n s.size)⟩
def bj(s:ByteArray):H1:=if(bR s).2.2=0 then eb s (bR s).1 (bR s).2.1 else⟨0,⟨#[]⟩,(bR s).2.2⟩
theorem im{s:ByteArray}:(s.size=0) ↔ s.toList=[]:=by
 rw[ByteArray.toList_eq,←List.length_eq_zero_iff,Array.length_toList];exact Iff.rfl
theorem pN{s:ByteArray}(h:s.size=0):s.toList.isEmpty=true∧s.toList=[]:=⟨by rw[im.1 h];rfl,im.1 h⟩
theorem gl{s:ByteArray}(h:s.size≠0):s.toList.isEmpty=false∧ ¬s.toList=[]:=by
 have:¬s.toList=[]:=fun e=>h (im.2 e)
 exact⟨by cases hh:s.toList with|nil=>exact absurd hh this|cons=>rfl,this⟩
theorem gp(c:Int)(s:ByteArray)(w:World)(hs:s.size≤4611686018427387900):
 Calls Tryz.prog 106 #[.agg #[.int .i64 c,.string s]] w fun e w'=>e= .returned (.int .i64 (aP c s))∧Below w.heap.size w w':=by
 by_cases h1:c<0
 · have HR:=Lib.hid (show aP c s=1 by unfold aP;rw[if_pos (.inl h1)])
   go_enter Tryz.func106,Tryz.ntmps106
   go_wp2_with fail
   go_ret
   exact⟨aQ (by rw[HR.out]),(Below.refl _ _).alloc (Nat.le_refl _) _⟩
 by_cases h2:13<c
 · have HR:=Lib.hid (show aP c s=1 by unfold aP;rw[if_pos (.inr h2)])
   go_enter Tryz.func106,Tryz.ntmps106
   go_wp2_with fail
   go_ret
   exact⟨aQ (by rw[HR.out]),(Below.refl _ _).alloc (Nat.le_refl _) _⟩
 have hV:=fun w=>mJ s w hs
 cases hv:gi s with
 |false=>
  rw[hv]at hV
  have HV:=Lib.hid hV
  have HR:=Lib.hid (show aP c s=7 by unfold aP;rw[if_neg (by omega),if_pos hv])
  clear hv hV
  go_enter Tryz.func106,Tryz.ntmps106
  go_wp2_with fail
  refine(HV.out _).mono ?_;rintro e w1 ⟨rfl,hb⟩
  obtain⟨hcb,hfb⟩:=iE hb
  go_wp2_with fail
  go_ret
  exact⟨aQ (by rw[HR.out]),((Below.refl _ _).alloc (Nat.le_refl _) _).trans (hb.mono (by simp))⟩
 |true=>
  rw[hv]at hV
  have HV:=Lib.hid hV
  by_cases h3:4096<s.size
  · have HR:=Lib.hid (show aP c s=3 by unfold aP;rw[if_neg (by omega),if_neg (by rw[hv];simp),if_pos h3])
    clear hv hV
    go_enter Tryz.func106,Tryz.ntmps106
    go_wp2_with fail
    refine(HV.out _).mono ?_;rintro e w1 ⟨rfl,hb⟩
    obtain⟨hcb,hfb⟩:=iE hb
    go_wp2_with fail
    go_ret
    exact⟨aQ (by rw[HR.out]),((Below.refl _ _).alloc (Nat.le_refl _) _).trans (hb.mono (by simp))⟩
  · by_cases h4:c=0
    · subst h4
      by_cases h5:s.size=0
      · obtain⟨e1,e2⟩:=pN h5
        have HR:=Lib.hid (show aP 0 s=0 by unfold aP;rw[if_neg (by omega),if_neg (by rw[hv];simp),if_neg h3,if_neg (by omega)])
        clear hv hV h5
        go_enter Tryz.func106,Tryz.ntmps106
        go_wp2_with fail
        refine(HV.out _).mono ?_;rintro e w1 ⟨rfl,hb⟩
        obtain⟨hcb,hfb⟩:=iE hb
        go_wp2_with fail
        go_ret
        exact⟨aQ (by rw[HR.out]),((Below.refl _ _).alloc (Nat.le_refl _) _).trans (hb.mono (by simp))⟩
      · obtain⟨e1,e2⟩:=gl h5
        have HR:=Lib.hid (show aP 0 s=1 by unfold aP;rw[if_neg (by omega),if_neg (by rw[hv];simp),if_neg h3,if_pos ⟨rfl,h5⟩])
        clear hv hV h5
        go_enter Tryz.func106,Tryz.ntmps106
        go_wp2_with fail
        refine(HV.out _).mono ?_;rintro e w1 ⟨rfl,hb⟩
        obtain⟨hcb,hfb⟩:=iE hb
        go_wp2_with fail
        go_ret
        exact⟨aQ (by rw[HR.out]),((Below.refl _ _).alloc (Nat.le_refl _) _).trans (hb.mono (by simp))⟩
    · have hq:=(aB h4).1
      have HR:=Lib.hid (show aP c s=0 by unfold aP;rw[if_neg (by omega),if_neg (by rw[hv];simp),if_neg h3,if_neg (by omega)])
      clear hv hV h4
      go_enter Tryz.func106,Tryz.ntmps106
      go_wp2_with fail
      refine(HV.out _).mono ?_;rintro e w1 ⟨rfl,hb⟩
      obtain⟨hcb,hfb⟩:=iE hb
      go_wp2_with fail
      go_ret
      exact⟨aQ (by rw[HR.out]),((Below.refl _ _).alloc (Nat.le_refl _) _).trans (hb.mono (by simp))⟩
theorem ec(c:Int)(s:ByteArray)(w:World)(hs:s.size≤4611686018427387900):
 Calls Tryz.prog 114 #[.agg #[.int .i64 c,.string s]] w fun e w'=>e= .returned (.int .i64 (aP c s))∧Below w.heap.size w w':=by
 by_cases h1:c<0
 · have HR:=Lib.hid (show aP c s=1 by unfold aP;rw[if_pos (.inl h1)])
   go_enter Tryz.func114,Tryz.ntmps114
   go_wp2_with fail
   go_ret
   exact⟨aQ (by rw[HR.out]),(Below.refl _ _).alloc (Nat.le_refl _) _⟩
 by_cases h2:13<c
 · have HR:=Lib.hid (show aP c s=1 by unfold aP;rw[if_pos (.inr h2)])
   go_enter Tryz.func114,Tryz.ntmps114
   go_wp2_with fail
   go_ret
   exact⟨aQ (by rw[HR.out]),(Below.refl _ _).alloc (Nat.le_refl _) _⟩
 have hV:=fun w=>mI s w hs
 cases hv:gi s with
 |false=>
  rw[hv]at hV
  have HV:=Lib.hid hV
  have HR:=Lib.hid (show aP c s=7 by unfold aP;rw[if_neg (by omega),if_pos hv])
  clear hv hV
  go_enter Tryz.func114,Tryz.ntmps114
  go_wp2_with fail
  refine(HV.out _).mono ?_;rintro e w1 ⟨rfl,rfl⟩
  go_wp2_with fail
  go_ret
  exact⟨aQ (by rw[HR.out]),(Below.refl _ _).alloc (Nat.le_refl _) _⟩
 |true=>
  rw[hv]at hV
  have HV:=Lib.hid hV
  by_cases h3:4096<s.size
  · have HR:=Lib.hid (show aP c s=3 by unfold aP;rw[if_neg (by omega),if_neg (by rw[hv];simp),if_pos h3])
    clear hv hV
    go_enter Tryz.func114,Tryz.ntmps114
    go_wp2_with fail
    refine(HV.out _).mono ?_;rintro e w1 ⟨rfl,rfl⟩
    go_wp2_with fail
    go_ret
    exact⟨aQ (by rw[HR.out]),(Below.refl _ _).alloc (Nat.le_refl _) _⟩
  · by_cases h4:c=0
    · subst h4
      by_cases h5:s.size=0
      · obtain⟨e1,e2⟩:=pN h5
        have HR:=Lib.hid (show aP 0 s=0 by unfold aP;rw[if_neg (by omega),if_neg (by rw[hv];simp),if_neg h3,if_neg (by omega)])
        clear hv hV h5
        go_enter Tryz.func114,Tryz.ntmps114
        go_wp2_with fail
        refine(HV.out _).mono ?_;rintro e w1 ⟨rfl,rfl⟩
        go_wp2_with fail
        go_ret
        exact⟨aQ (by rw[HR.out]),(Below.refl _ _).alloc (Nat.le_refl _) _⟩
      · obtain⟨e1,e2⟩:=gl h5
        have HR:=Lib.hid (show aP 0 s=1 by unfold aP;rw[if_neg (by omega),if_neg (by rw[hv];simp),if_neg h3,if_pos ⟨rfl,h5⟩])
        clear hv hV h5
        go_enter Tryz.func114,Tryz.ntmps114
        go_wp2_with fail
        refine(HV.out _).mono ?_;rintro e w1 ⟨rfl,rfl⟩
        go_wp2_with fail
        go_ret
        exact⟨aQ (by rw[HR.out]),(Below.refl _ _).alloc (Nat.le_refl _) _⟩
    · have hq:=(aB h4).1
      have HR:=Lib.hid (show aP c s=0 by unfold aP;rw[if_neg (by omega),if_neg (by rw[hv];simp),if_neg h3,if_neg (by omega)])
      clear hv hV h4
      go_enter Tryz.func114,Tryz.ntmps114
      go_wp2_with fail
      refine(HV.out _).mono ?_;rintro e w1 ⟨rfl,rfl⟩
      go_wp2_with fail
      go_ret
      exact⟨aQ (by rw[HR.out]),(Below.refl _ _).alloc (Nat.le_refl _) _⟩
theorem kJ(f:FuncId)(c d:Int)(s:ByteArray)(h:aP c s=d)(hc:∀w,Calls Tryz.prog f #[.agg #[.int .i64 c,.string s]] w fun e w'=>e= .returned (.int .i64 (aP c s))∧Below w.heap.size w w')(w:World):
 Calls Tryz.prog f #[.agg #[.int .i64 c,.string s]] w fun e w'=>e= .returned (.int .i64 d)∧Below w.heap.size w w':=by subst h;exact hc w
theorem oL(c:Int)(s:ByteArray):aP c s=0∨aP c s=1∨aP c s=7∨aP c s=3:=by unfold aP;(repeat' split)<;>simp
theorem rP{c:Int}{s:ByteArray}(h:aP c s=0):0≤c∧c≤13∧gi s=true∧s.size≤4096∧(c=0→s.size=0):=by
 unfold aP at h
 split at h
 · cases h
 · split at h
   · cases h
   · rename_i hv
     split at h
     · cases h
     · split at h
       · cases h
       · exact⟨by omega,by omega,by simpa using hv,by omega,by omega⟩
theorem A2(c:Int)(s:ByteArray)(w:World)(hs:s.size≤4611686018427387900):
 Calls Tryz.prog 104 #[.agg #[.int .i64 c,.string s]] w fun e w'=>e= .returned (.string (fc c s))∧Below w.heap.size w w':=by
 by_cases h:aP c s=0
 · have HC:=Lib.hid (kJ _ c 0 s h fun w=>gp c s w hs)
   have HR:=Lib.hid (show fc c s=A1 (bp c.toNat) s by unfold fc;rw[if_pos h])
   obtain⟨h1,h2,_,h4,_⟩:=rP h
   clear h
   obtain⟨k,rfl⟩:∃k:Nat,c=k:=⟨c.toNat,by omega⟩
   have hput:=cq k
   have hwk:IntKind.u64.wrap (k:Int)=k:=by rw[IntKind.wrap_u64];omega
   have hsz:(⟨(bp k).toArray⟩:ByteArray).size=(bp k).length:=by show(bp k).toArray.size=_;simp
   have hno:¬9223372036854775807<(bp k).length+s.size:=by omega
   have HP:=Lib.hid (fun w=>ll k w (by omega))
   go_enter Tryz.func104,Tryz.ntmps104
   go_wp2_with fail
   refine(HC.out _).mono ?_;rintro e w1 ⟨rfl,hb⟩
   obtain⟨hcb,hfb⟩:=iE hb
   go_wp2_with fail
   refine cW (InvB (w.heap.size+1) _) HY (by kernel_rfl) (by kernel_rfl) (InvB.refl _ _) ?_
   iterate 3 (first|(refine jy rfl (fun K hK=> ?_);try go_simp;refine hK _ _ ?_;clear hK K)|(refine ar J J _ (fun w' hI=>by unfold InvB at hI;go_simp;rfl) (fun K hK=> ?_);try go_simp;refine hK _ _ ?_;clear hK K)|(refine ar J J _ (fun w' hI=>by go_simp;rfl) (fun K hK=> ?_);try go_simp;refine hK _ _ ?_;clear hK K)|(refine mG J J J _ (by go_simp;rfl) (fun K hK=> ?_);try go_simp;refine hK _ _ ?_;clear hK K))
   refine bH J J J (fun K hK=> ?_)
   go_simp
   refine(HP.out _).mono ?_;rintro e w2 ⟨rfl,hb2⟩
   try go_simp
   refine hK _ _ ⟨(InvB.refl _ _).below hb2 (by have:=hb.size;simp at this ⊢;omega),?_⟩;clear hK K
   obtain⟨hcb2,hfb2⟩:=iE hb2
   iterate 4 (first|(refine jy rfl (fun K hK=> ?_);try go_simp;refine hK _ _ ?_;clear hK K)|(refine ar J J _ (fun w' hI=>by unfold InvB at hI;go_simp;rfl) (fun K hK=> ?_);try go_simp;refine hK _ _ ?_;clear hK K)|(refine ar J J _ (fun w' hI=>by go_simp;rfl) (fun K hK=> ?_);try go_simp;refine hK _ _ ?_;clear hK K)|(refine mG J J J _ (by go_simp;rfl) (fun K hK=> ?_);try go_simp;refine hK _ _ ?_;clear hK K))
   refine dN ?_
   go_wp2
   go_ret
   have s1:=hb.size
   exact⟨fD (by rw[HR.out];rfl),((Below.refl _ _).alloc (Nat.le_refl _) _).trans ((hb.mono (by simp)).drew.trans (hb2.mono (by simp at s1 ⊢;omega)))⟩
 · have HR:=Lib.hid (show fc c s=⟨#[]⟩by unfold fc;rw[if_neg h])
   have hcode:=oL c s
   obtain⟨d,hd⟩:∃d,aP c s=d:=⟨_,rfl⟩
   have HC:=Lib.hid (kJ _ c d s hd fun w=>gp c s w hs)
   have hq:=aB (show d≠0 by omega)
   obtain⟨hq1,hq2⟩:=hq
   clear h hcode hd
   go_enter Tryz.func104,Tryz.ntmps104
   go_wp2_with fail
   refine(HC.out _).mono ?_;rintro e w1 ⟨rfl,hb⟩
   obtain⟨hcb,hfb⟩:=iE hb
   go_wp2_with fail
   go_ret
   exact⟨fD HR.out.symm,((Below.refl _ _).alloc (Nat.le_refl _) _).trans (hb.mono (by simp))⟩
theorem uA(c:Int)(s:ByteArray)(w:World)(hs:s.size≤4611686018427387900):
 Calls Tryz.prog 115 #[.agg #[.int .i64 c,.string s]] w fun e w'=>e= .returned (.string (fc c s))∧Below w.heap.size w w':=by
 by_cases h:aP c s=0
 · have HC:=Lib.hid (kJ _ c 0 s h fun w=>ec c s w hs)
   have HR:=Lib.hid (show fc c s=A1 (bp c.toNat) s by unfold fc;rw[if_pos h])
   obtain⟨h1,h2,_,h4,_⟩:=rP h
   clear h
   obtain⟨k,rfl⟩:∃k:Nat,c=k:=⟨c.toNat,by omega⟩
   have hput:=cq k
   have hwk:IntKind.u64.wrap (k:Int)=k:=by rw[IntKind.wrap_u64];omega
   have hsz:(⟨(bp k).toArray⟩:ByteArray).size=(bp k).length:=by show(bp k).toArray.size=_;simp
   have hno:¬9223372036854775807<(bp k).length+s.size:=by omega
   have HP:=Lib.hid (fun w=>fp k w (by omega))
   go_enter Tryz.func115,Tryz.ntmps115
   go_wp2_with fail
   refine(HC.out _).mono ?_;rintro e w1 ⟨rfl,hb⟩
   obtain⟨hcb,hfb⟩:=iE hb
   go_wp2_with fail
   refine cW (InvB (w.heap.size+1) _) HY (by kernel_rfl) (by kernel_rfl) (InvB.refl _ _) ?_
   iterate 3 (first|(refine jy rfl (fun K hK=> ?_);try go_simp;refine hK _ _ ?_;clear hK K)|(refine ar J J _ (fun w' hI=>by unfold InvB at hI;go_simp;rfl) (fun K hK=> ?_);try go_simp;refine hK _ _ ?_;clear hK K)|(refine ar J J _ (fun w' hI=>by go_simp;rfl) (fun K hK=> ?_);try go_simp;refine hK _ _ ?_;clear hK K)|(refine mG J J J _ (by go_simp;rfl) (fun K hK=> ?_);try go_simp;refine hK _ _ ?_;clear hK K))
   refine bH J J J (fun K hK=> ?_)
   go_simp
   refine(HP.out _).mono ?_;rintro e w2 ⟨rfl,hb2⟩
   try go_simp
   refine hK _ _ ⟨(InvB.refl _ _).below hb2 (by have:=hb.size;simp at this ⊢;omega),?_⟩;clear hK K
   obtain⟨hcb2,hfb2⟩:=iE hb2
   iterate 4 (first|(refine jy rfl (fun K hK=> ?_);try go_simp;refine hK _ _ ?_;clear hK K)|(refine ar J J _ (fun w' hI=>by unfold InvB at hI;go_simp;rfl) (fun K hK=> ?_);try go_simp;refine hK _ _ ?_;clear hK K)|(refine ar J J _ (fun w' hI=>by go_simp;rfl) (fun K hK=> ?_);try go_simp;refine hK _ _ ?_;clear hK K)|(refine mG J J J _ (by go_simp;rfl) (fun K hK=> ?_);try go_simp;refine hK _ _ ?_;clear hK K))
   refine dN ?_
   go_wp2
   go_ret
   have s1:=hb.size
   exact⟨fD (by rw[HR.out];rfl),((Below.refl _ _).alloc (Nat.le_refl _) _).trans ((hb.mono (by simp)).drew.trans (hb2.mono (by simp at s1 ⊢;omega)))⟩
 · have HR:=Lib.hid (show fc c s=⟨#[]⟩by unfold fc;rw[if_neg h])
   have hcode:=oL c s
   obtain⟨d,hd⟩:∃d,aP c s=d:=⟨_,rfl⟩
   have HC:=Lib.hid (kJ _ c d s hd fun w=>ec c s w hs)
   have hq:=aB (show d≠0 by omega)
   obtain⟨hq1,hq2⟩:=hq
   clear h hcode hd
   go_enter Tryz.func115,Tryz.ntmps115
   go_wp2_with fail
   refine(HC.out _).mono ?_;rintro e w1 ⟨rfl,hb⟩
   obtain⟨hcb,hfb⟩:=iE hb
   go_wp2_with fail
   go_ret
   exact⟨fD HR.out.symm,((Below.refl _ _).alloc (Nat.le_refl _) _).trans (hb.mono (by simp))⟩
end
section
open Go
def emptyB:ByteArray:=⟨#[]⟩
structure GZ where
 num:Nat
 rest:ByteArray
 err:Int
def cb(s:ByteArray)(e:Int):GZ:=if e=0 then⟨(bR s).1,s.extract (bR s).2.1 s.size,(bR s).2.2⟩else⟨0,s,e⟩
structure tn where
 text:ByteArray
 rest:ByteArray
 err:Int
def iF(t:GZ):tn:=if t.err=0 then(if t.rest.size<t.num then⟨⟨#[]⟩,t.rest,4⟩else⟨t.rest.extract 0 t.num,t.rest.extract t.num t.rest.size,0⟩)else⟨⟨#[]⟩,t.rest,t.err⟩
def be(s:ByteArray)(e:Int):tn:=iF (cb s e)
structure FQ where
 metas:List (ByteArray×ByteArray)
 rest:ByteArray
 err:Int
def dI:Nat→ByteArray→Int→List (ByteArray×ByteArray)→FQ
 |0,s,e,acc=>⟨acc,s,e⟩
 |k+1,s,e,acc=>if e=0 then dI k (be (be s e).rest (be s e).err).rest (be (be s e).rest (be s e).err).err (acc++[((be s e).text,(be (be s e).rest (be s e).err).text)])else⟨acc,s,e⟩
structure io where
 svc:ByteArray
 mth:ByteArray
 late:Int
 metas:List (ByteArray×ByteArray)
def gP:io:=⟨⟨#[]⟩,⟨#[]⟩,0,[]⟩
def kb(c:UInt8):Bool:=decide ((97≤c.toNat∧c.toNat≤122)∨(48≤c.toNat∧c.toNat≤57)∨c.toNat=45)
def jb(l:List UInt8):Bool:=decide (1≤l.length∧l.length≤40) &&l.all kb
def eD:Nat→ByteArray→List (ByteArray×ByteArray)→Int
 |_,_,[]=>0
 |i,p,(k,v)::r=>if jb k.data.toList=false then 8 else if 200<v.size then 3 else if gi v=false then 7 else if 0<i∧Op.bytesLess p.toList k.toList=false then 11 else eD (i+1) k r
def bG(h:io):Int:=
 if cN h.svc.data.toList=false∨bE h.mth.data.toList=false then 8 else if h.late<0∨1099511627776<h.late then 6 else if 16<h.metas.length then 3 else eD 0 ⟨#[]⟩ h.metas
def aN(s:ByteArray):List UInt8:=bp s.size++s.data.toList
def mK(m:ByteArray×ByteArray):List UInt8:=aN m.1++aN m.2
def fX(h:io):List UInt8:=aN h.svc++aN h.mth++bp h.late.toNat++bp h.metas.length++h.metas.flatMap mK
structure Is where
 bytes:List UInt8
 err:Int
def fY(h:io):Is:=if bG h=0 then⟨fX h,0⟩else⟨[],bG h⟩
structure Dc where
 head:io
 err:Int
def jc(data:ByteArray)(h:io)(late:Nat)(m:FQ):Dc:=
 if m.err≠0 then⟨gP,m.err⟩else if m.rest.size≠0 then⟨gP,18⟩else if 1099511627776<late then⟨gP,6⟩
 else if bG {h with late:=late,metas:=m.metas} ≠0 then⟨gP,bG {h with late:=late,metas:=m.metas}⟩
 else if fX {h with late:=late,metas:=m.metas} ≠data.data.toList then⟨gP,5⟩else⟨{h with late:=late,metas:=m.metas},0⟩
def fM(n:Nat)(s:ByteArray)(e:Int):FQ:=if e=0 then(if 16<n then⟨[],s,3⟩else dI n s 0 [])else⟨[],s,e⟩
def bK(data:ByteArray):Dc:=
 let a:=be data 0
 let b:=be a.rest a.err
 let c:=cb b.rest b.err
 let d:=cb c.rest c.err
 jc data ⟨a.text,b.text,0,[]⟩ c.num (fM d.num d.rest d.err)
structure aS where
 kind:Int
 strm:Int
 num:Int
 data:ByteArray
def bW(k s:Int):Bool:=if k=7∨k=8∨k=9 then decide (s=0)else if k=6 then decide (0≤s)else decide (1≤s)
def cV(k n:Int):Bool:=if k=1 then decide (1≤n∧n≤4)else if k=5 then decide (1≤n∧n≤13)else if k=6 then decide (1≤n∧n≤1048576)else if k=7∨k=8 then decide (0≤n∧n≤4294967295)else if k=9 then decide (0≤n∧n≤2147483647)else decide (n=0)
def db(k:Int)(d:ByteArray):Bool:=decide (k=1∨k=2∨k=4)||decide (d.size=0)
def aA(f:aS):Int:=
 if f.kind<1∨9<f.kind∨bW f.kind f.strm=false∨cV f.kind f.num=false∨db f.kind f.data=false then 1
 else if 16384<f.data.size∨2147483647<f.strm then 3
 else if f.kind=1 then(bK f.data).err else if f.kind=4 then(bj f.data).err else 0
theorem uB:∀a b:List UInt8,(Op.bytesLess b a||b==a)= !(Op.bytesLess a b)
 | [],[]=>rfl
 | [],_::_=>rfl
 |_::_,[]=>rfl
 |x::a,y::b=>by
  have ih:=uB a b
  simp only[Op.bytesLess]
  have hc:((y::b)==(x::a))=((y==x) && (b==a)):=rfl
  rw[hc]
  rcases Nat.lt_trichotomy x.toNat y.toNat with h|h|h
  · have h1:x<y:=UInt8.lt_iff_toNat_lt.2 h
    have h2:¬y<x:=fun e=>by have:=UInt8.lt_iff_toNat_lt.1 e;omega
    have h3:¬y=x:=fun e=>by rw[e]at h;omega
    simp[h1,h2,h3]
  · have h3:x=y:=UInt8.toNat_inj.1 h
    subst h3
    have h2:¬x<x:=fun e=>by have:=UInt8.lt_iff_toNat_lt.1 e;omega
    simp[h2,ih]
  · have h1:y<x:=UInt8.lt_iff_toNat_lt.2 h
    have h2:¬x<y:=fun e=>by have:=UInt8.lt_iff_toNat_lt.1 e;omega
    have h3:¬x=y:=fun e=>by rw[e]at h;omega
    simp[h1,h2,h3]
def eG(ms:List (ByteArray×ByteArray))(k:Nat):ByteArray:=(ms.getD (k-1) (⟨#[]⟩,⟨#[]⟩)).1
theorem wz{ms:List (ByteArray×ByteArray)}{k:Nat}(h:k<ms.length):eG ms (k+1)=ms[k].1:=by
 unfold eG;rw[show k+1-1=k by omega,List.getD_eq_getElem?_getD,List.getElem?_eq_getElem h];rfl
theorem pO{ms:List (ByteArray×ByteArray)}{k:Nat}(h:k<ms.length)(p:ByteArray):eD k p (ms.drop k)=
 if jb ms[k].1.data.toList=false then 8 else if 200<ms[k].2.size then 3 else if gi ms[k].2=false then 7 else if 0<k∧Op.bytesLess p.toList ms[k].1.toList=false then 11 else eD (k+1) (eG ms (k+1)) (ms.drop (k+1)):=by
 rw[wz h,List.drop_eq_getElem_cons h]
 rfl
theorem uC{l:List UInt8}{k:Nat}(h:k<l.length)(hg:kb l[k]=false):jb l=false:=by
 unfold jb
 have:l.all kb=false:=by rw[List.all_eq_false];exact⟨l[k],List.getElem_mem h,by simp[hg]⟩
 rw[this,Bool.and_false]
theorem uD{l:List UInt8}(h1:1≤l.length∧l.length≤40)(hg:∀k (h:k<l.length),kb l[k]=true):jb l=true:=by
 unfold jb
 rw[decide_eq_true h1,Bool.true_and,List.all_eq_true]
 intro x hx
 obtain⟨k,hk,rfl⟩:=List.mem_iff_getElem.1 hx
 exact hg k hk
theorem rQ{l:List UInt8}(h:¬ (1≤l.length∧l.length≤40)):jb l=false:=by unfold jb;rw[decide_eq_false h];rfl
theorem pP(c:UInt8):(kb c=true∧(97≤c.toNat∧c.toNat≤122))∨(kb c=true∧48≤c.toNat∧c.toNat≤57)∨(kb c=true∧c.toNat=45)∨(kb c=false∧(c.toNat<97∨122<c.toNat)∧(c.toNat<48∨57<c.toNat)∧c.toNat≠45):=by
 unfold kb;simp only[decide_eq_true_eq,decide_eq_false_iff_not];omega
end
end Go.Proofs.YthiocbcokfondaaGreatDoor
