/- Package block: Body: its walk. -/
import Derived.Test.YtfkcdnaghndgfaaGreatDoorQBK
import Derived.Test.YtfkcdnaghndgfaaGreatDoorQBN
set_option linter.unusedVariables false
set_option linter.unusedSimpArgs false
set_option linter.unusedSectionVars false
namespace Go.Proofs.YtfkcdnaghndgfaaGreatDoor
open Go.RowKit
def yj (f:Nat→Int):Nat→Int
 | 0=>0
 | i+1=>yj f i+f i
theorem yC (f:Nat→Int) (i:Nat):yj f (i+1)=yj f i+f i:=rfl
theorem KG (f:Nat→Int) (M:Int) (hM:0≤M) : ∀ i,(∀ j,j<i→0≤f j∧f j≤M)→0≤yj f i∧yj f i≤i*M
 | 0,_=>by simp [yj]
 | i+1,h=>by
   have h1:=KG f M hM i (fun j hj=>h j (by omega))
   have h2:=h i (by omega)
   rw [yC]
   have e:((i+1:Nat):Int)*M=i*M+M:=by rw [Int.natCast_add,Int.add_mul]; simp
   rw [e]
   omega
theorem WQ : ∀ j:Fin 286,yA ((j.val:Nat):Int)≤13 ∧ -1≤yA ((j.val:Nat):Int):=by decide +kernel
theorem zaC : ∀ j:Fin 30,xA ((j.val:Nat):Int)≤13∧0≤xA ((j.val:Nat):Int):=by decide +kernel
def jB (A:List Nat) (j:Nat):Int:=(A.getD j 0:Nat)*max 0 (yA ((j:Nat):Int))
def kp (B:List Nat) (j:Nat):Int:=(B.getD j 0:Nat)*xA ((j:Nat):Int)
theorem jV {A:List Nat} {M:Nat} (h : ∀ x∈A,x≤M) (j:Nat):A.getD j 0≤M:=by
 rw [List.getD_eq_getElem?_getD]
 cases h2:A[j]? with
 | none=>simp
 | some y=>exact h y (List.mem_of_getElem? h2)
theorem zic {A:List Nat} (h : ∀ x∈A,x≤100001) (j:Nat) (hj:j<286):0≤jB A j∧jB A j≤1300013:=by
 have h1:=jV h j
 have h2:=WQ ⟨j,hj⟩
 dsimp only at h2
 unfold jB
 generalize A.getD j 0=x at *
 have h3:0≤max 0 (yA (j:Nat))∧max 0 (yA (j:Nat))≤13:=by omega
 generalize max 0 (yA (j:Nat))=m at *
 constructor
 · exact Int.mul_nonneg (by omega) h3.1
 · have:=Int.mul_le_mul (show (x:Int)≤100001 by omega) h3.2 h3.1 (by omega)
   omega
theorem zh7 {B:List Nat} (h : ∀ x∈B,x≤100001) (j:Nat) (hj:j<30):0≤kp B j∧kp B j≤1300013:=by
 have h1:=jV h j
 have h2:=zaC ⟨j,hj⟩
 dsimp only at h2
 unfold kp
 generalize B.getD j 0=x at *
 generalize xA (j:Nat)=m at *
 constructor
 · exact Int.mul_nonneg (by omega) h2.2
 · have:=Int.mul_le_mul (show (x:Int)≤100001 by omega) h2.1 h2.2 (by omega)
   omega
def yW (x y:List Int) (p:List Nat×List Nat):Int :=
 yc x (ints p.1) (min (min x.length 286) 300)+yc y (ints p.2) (min (min y.length 30) 300)+yj (jB p.1) 286+yj (kp p.2) 30
def ziG (x y:List Int) (l:List Tok) (w:World) (e:Ending) (w':World):Prop:=e = .returned (.int .i64 (yW x y (zk l)))∧Upd [] w w'
set_option maxRecDepth 100000 in
set_option maxHeartbeats 6400000 in
theorem zg9 (l:List Tok) (x y:List Int) (a ax ay:Option Addr) (n cap nx cx ny cy:Nat) (w:World) (hI:TokIn w a n l) (hn:n≤100000) (hok : ∀ t∈l,zr t)
 (hX:IntsIn w ax nx x) (hY:IntsIn w ay ny y) (hnx:nx≤9223372036854775807) (hny:ny≤9223372036854775807) :
 Calls Tryz.prog 129 #[.slice a n cap,.slice ax nx cx,.slice ay ny cy] w fun e w'=>ziG x y l w e w':=by
 have HMA:=Lib.hid (WW l a n cap w hI hn hok)
 have HMO:=Lib.hid (by have:=xt l l.length (Nat.le_refl _); rw [List.take_length] at this; exact this)
 have HLN:=Lib.hid hI.len
 have HX:=Lib.hid hX
 have HY:=Lib.hid hY
 have hlx:=hX.len
 have hly:=hY.len
 subst hlx hly
 clear hI hok hX hY
 unfold ziG
 obtain ⟨R,hR⟩ : ∃ R,yW x y (zk l)=R:=⟨_,rfl⟩
 rw [hR]
 unfold yW at hR
 have HRR:=Lib.hid hR
 clear hR
 unfold zgU at HMA
 generalize zk l=p at *
 obtain ⟨pa,pb⟩:=p
 dsimp only at HMA HRR
 go_enter Tryz.func129,Tryz.ntmps129
 go_wp2_with fail
 refine HMA.out.mono ?_
 rintro e w1 ⟨oa,ob,rfl,hA,hB,_,_,_,hU1⟩
 have hla:pa.length=286:=HMO.out.la
 have hlb:pb.length=30:=HMO.out.lb
 have hba : ∀ v∈pa,v≤100001:=fun v hv=>by have:=HMO.out.ba v hv; have:=HLN.out; omega
 have hbb : ∀ v∈pb,v≤100001:=fun v hv=>by have:=HMO.out.bb v hv; have:=HLN.out; omega
 have hIA:IntsIn w1 (some ⟨oa,0,none⟩) (ints pa).length (ints pa):=IntsIn.blk hA (by simp [ints]) (fun v hv=>by have:=hba v hv; omega)
 have hIB:IntsIn w1 (some ⟨ob,0,none⟩) (ints pb).length (ints pb):=IntsIn.blk hB (by simp [ints]) (fun v hv=>by have:=hbb v hv; omega)
 have hpa:(ints pa).length=286:=by simp [ints,hla]
 have hpb:(ints pb).length=30:=by simp [ints,hlb]
 have HC1:=Lib.hid (VT ax (some ⟨oa,0,none⟩) cx 286 x (ints pa) w1 (HX.out.pure hU1) hIA hnx (by omega))
 have HC2:=Lib.hid (fun w2 (h:Upd [] w1 w2)=>VT ay (some ⟨ob,0,none⟩) cy 30 y (ints pb) w2 ((HY.out.pure hU1).pure h) (hIB.pure h) hny (by omega))
 have hb1:=QD x (ints pa) (min (min x.length 286) 300)
 have hb2:=QD y (ints pb) (min (min y.length 30) 300)
 rw [hpa] at HC1
 rw [hpb] at HC2
 have hk1:((min (min x.length 286) 300:Nat):Int)≤300:=by omega
 have hk2:((min (min y.length 30) 300:Nat):Int)≤300:=by omega
 have hc1:0≤yc x (ints pa) (min (min x.length 286) 300)∧yc x (ints pa) (min (min x.length 286) 300)≤4947802324992000:=by omega
 have hc2:0≤yc y (ints pb) (min (min y.length 30) 300)∧yc y (ints pb) (min (min y.length 30) 300)≤4947802324992000:=by omega
 generalize yc x (ints pa) (min (min x.length 286) 300)=C1 at *
 generalize yc y (ints pb) (min (min y.length 30) 300)=C2 at *
 have hw0:IntKind.i64.wrap (C1+C2)=C1+C2:=IntWalk.i64_in _ (by omega)
 have HA:=Lib.hid hA
 have HB:=Lib.hid hB
 have HU1:=Lib.hid hU1
 have HLA:=Lib.hid hla
 have HLB:=Lib.hid hlb
 have HBA:=Lib.hid hba
 have HBB:=Lib.hid hbb
 clear hA hB hU1 hla hlb hba hbb hIA hIB hpa hpb hb1 hb2 hk1 hk2 HMA
 go_wp2_with fail
 refine HC1.out.mono ?_
 rintro e w2 ⟨rfl,q2,rfl⟩
 go_wp2_with fail
 refine (HC2.out _ ((Upd.refl [] w1).drewN q2)).mono ?_
 rintro e w3 ⟨rfl,q3,rfl⟩
 have HA3:=Lib.hid (HA.out.drewN (q2+q3))
 have HB3:=Lib.hid (HB.out.drewN (q2+q3))
 have HU3:=Lib.hid (HU1.out.drewN (q2+q3))
 clear HC1 HC2 HA HB HU1
 go_wp2
 generalize w1.drewN (q2+q3)=w4 at *
 have hCb:0≤C1+C2∧C1+C2≤9895604649984000:=by omega
 obtain ⟨C,hC⟩ : ∃ C,C1+C2=C:=⟨_,rfl⟩
 rw [hC] at hCb ⊢
 clear hw0 hc1 hc2
 have HC:=Lib.hid hC
 clear hC
 have HLS:Hid (∀ j,j<286→0≤jB pa j∧jB pa j≤1300013):=Lib.hid (fun j hj=>zic HBA.out j hj)
 have HBS:Hid (∀ j,j<30→0≤kp pb j∧kp pb j≤1300013):=Lib.hid (fun j hj=>zh7 HBB.out j hj)
 go_loopg [9,28] 1000 (fun gg s9 s28 wr => ∃ i:Nat,i≤286∧gg=1000-i∧s28 = .int .i64 (i:Nat)∧s9 = .int .i64 (C+yj (jB pa) i)∧Hid (Upd [] w4 wr))
 case atStart=>exact ⟨0,by omega,by omega,rfl,by rw [show yj (jB pa) 0=0 from rfl,Int.add_zero],Lib.hid (Upd.refl _ _)⟩
 case round =>
  obtain ⟨i,hi,rfl,rfl,rfl,HU⟩:=hrel
  have hsb:=KG (jB pa) 1300013 (by omega) i (fun j hj=>HLS.out j (by omega))
  have hsb2:yj (jB pa) i≤371803718:=by omega
  have hsb1:=hsb.1
  clear hsb
  by_cases hc:i<286
  · have hcz:(i:Int)<286:=by omega
    have hw1:IntKind.i64.wrap ((i:Int)+1)=((i+1:Nat):Int):=by rw [IntWalk.i64_in _ (by omega)]; rfl
    have hgt:pa[i]? =some (pa.getD i 0):=by rw [List.getD_eq_getElem?_getD,List.getElem?_eq_getElem (by rw [HLA.out]; exact hc)]; rfl
    have ca:=(HA3.out.upd HU.out (by simp)).cell i (zC pa i _ hgt)
    have HLB2:=Lib.hid (fun w'=>Kp i w' (by omega))
    have hx:=HLS.out i hc
    have HLX:Hid (jB pa i=(pa.getD i 0:Nat)*max 0 (yA ((i:Nat):Int))):=Lib.hid rfl
    have HSU:Hid (yj (jB pa) (i+1)=yj (jB pa) i+jB pa i):=Lib.hid rfl
    have hxm:((pa.getD i 0:Nat):Int)*max 0 (yA ((i:Nat):Int))=jB pa i:=rfl
    generalize jB pa i=X at *
    generalize yj (jB pa) i=S at *
    generalize yA ((i:Nat):Int)=B at *
    generalize pa.getD i 0=y at *
    have hwm:IntKind.i64.wrap ((y:Int)*max 0 B)=X:=by rw [hxm]; exact IntWalk.i64_in _ (by omega)
    have hws:IntKind.i64.wrap (C+S+X)=C+S+X:=IntWalk.i64_in _ (by omega)
    clear hxm hgt
    go_wp2_with fail
    refine (HLB2.out _).mono ?_
    rintro e w5 ⟨rfl,hU5⟩
    have HU5:=Lib.hid (HU.out.then hU5)
    clear hU5 HLB2
    go_wp2
    go_roundg (1000-(i+1))
    · exact ⟨i+1,by omega,by first | rfl | omega,by first | rfl | go_num,by rw [HSU.out]; congr 1; omega,HU5⟩
    · omega
  · have hcz : ¬ (i:Int)<286:=by omega
    obtain rfl:i=286:=by omega
    have HS1:Hid (yj (jB pa) 286=yj (jB pa) 286):=Lib.hid rfl
    obtain ⟨S1,hS1⟩ : ∃ S1,yj (jB pa) 286=S1:=⟨_,rfl⟩
    rw [hS1] at hsb1 hsb2 ⊢
    have HSE:=Lib.hid hS1
    obtain ⟨D,hD⟩ : ∃ D,C+S1=D:=⟨_,rfl⟩
    have hDb:0≤D∧D≤9895604649984000+371803718:=by omega
    have hDb2:D≤9895605021787718:=by omega
    rw [hD]
    have HD:=Lib.hid hD
    clear hS1 hD hDb HS1
    have hD0:0≤D:=by have:=HD.out; omega
    go_wp2
    go_loopg [9,43] 1000 (fun gg s9 s43 wq => ∃ k:Nat,k≤30∧gg=1000-k∧s43 = .int .i64 (k:Nat)∧s9 = .int .i64 (D+yj (kp pb) k)∧Hid (Upd [] w4 wq))
    case atStart=>exact ⟨0,by omega,by omega,rfl,by rw [show yj (kp pb) 0=0 from rfl,Int.add_zero],HU⟩
    case round =>
     obtain ⟨k,hk,rfl,rfl,rfl,HU⟩:=hrel
     have hsb:=KG (kp pb) 1300013 (by omega) k (fun j hj=>HBS.out j (by omega))
     have hsb3:yj (kp pb) k≤39000390:=by omega
     have hsb4:=hsb.1
     clear hsb
     by_cases hkc:k<30
     · have hkz:(k:Int)<30:=by omega
       have hw1:IntKind.i64.wrap ((k:Int)+1)=((k+1:Nat):Int):=by rw [IntWalk.i64_in _ (by omega)]; rfl
       have hgt:pb[k]? =some (pb.getD k 0):=by rw [List.getD_eq_getElem?_getD,List.getElem?_eq_getElem (by rw [HLB.out]; exact hkc)]; rfl
       have ca:=(HB3.out.upd HU.out (by simp)).cell k (zC pb k _ hgt)
       have HLB2:=Lib.hid (fun w'=>Wf ((k:Nat):Int) w')
       have hx:=HBS.out k hkc
       have HSU:Hid (yj (kp pb) (k+1)=yj (kp pb) k+kp pb k):=Lib.hid rfl
       have hxm:((pb.getD k 0:Nat):Int)*xA ((k:Nat):Int)=kp pb k:=rfl
       generalize kp pb k=X at *
       generalize yj (kp pb) k=S at *
       generalize xA ((k:Nat):Int)=B at *
       generalize pb.getD k 0=y at *
       have hwm:IntKind.i64.wrap ((y:Int)*B)=X:=by rw [hxm]; exact IntWalk.i64_in _ (by omega)
       have hws:IntKind.i64.wrap (D+S+X)=D+S+X:=IntWalk.i64_in _ (by omega)
       clear hxm hgt
       go_wp2_with fail
       refine (HLB2.out _).mono ?_
       rintro e w5 ⟨rfl,hU5⟩
       have HU5:=Lib.hid (HU.out.then hU5)
       clear hU5 HLB2
       go_wp2
       go_roundg (1000-(k+1))
       · exact ⟨k+1,by omega,by first | rfl | omega,by first | rfl | go_num,by rw [HSU.out]; congr 1; omega,HU5⟩
       · omega
     · have hkz : ¬ (k:Int)<30:=by omega
       obtain rfl:k=30:=by omega
       have HF:Hid (D+yj (kp pb) 30=R):=Lib.hid (by rw [← HRR.out,HC.out,HSE.out,HD.out])
       generalize yj (kp pb) 30=S3 at *
       generalize yj (jB pa) 286=S4 at *
       go_wp2
       go_ret
       exact ⟨by rw [← HF.out]; rfl,HU3.out.then HU.out⟩
end Go.Proofs.YtfkcdnaghndgfaaGreatDoor
namespace Go.Proofs.YtfkcdnaghndgfaaGreatDoor
theorem Zm (l u:List Int) : ∀ i,yc l u i=yj (fun j=>max 0 (min (l.getD j 0) 15)*ja (u.getD j 0)) i
 | 0=>rfl
 | i+1=>by rw [yC,yc,Zm l u i]
theorem QM (f g:Nat→Int) : ∀ i,yj f i+yj g i=yj (fun j=>f j+g j) i
 | 0=>rfl
 | i+1=>by rw [yC,yC,yC,← QM f g i]; omega
theorem JI {f g:Nat→Int} : ∀ i,(∀ j,j<i→f j=g j)→yj f i=yj g i
 | 0,_=>rfl
 | i+1,h=>by rw [yC,yC,JI i (fun j hj=>h j (by omega)),h i (by omega)]
theorem qE (a:List Nat) (c j:Nat) (hc:c<a.length):(xu a c).getD j 0=a.getD j 0+if j=c then 1 else 0:=by
 unfold xu
 by_cases h:j=c
 · subst h
   rw [if_pos rfl,List.getD_eq_getElem?_getD,List.getElem?_set_self hc]
   rfl
 · rw [if_neg h,List.getD_eq_getElem?_getD,List.getElem?_set_ne (Ne.symm h),List.getD_eq_getElem?_getD]
   rfl
theorem kW (a:List Nat) (c:Nat) (hc:c<a.length) (W:Nat→Int) : ∀ i,yj (fun j=>((xu a c).getD j 0:Nat)*W j) i=yj (fun j=>(a.getD j 0:Nat)*W j) i+if c<i then W c else 0
 | 0=>by simp [yj]
 | i+1=>by
   rw [yC,yC,kW a c hc W i,qE a c i hc]
   by_cases h:i=c
   · subst h
     rw [if_pos rfl,if_neg (by omega),if_pos (by omega)]
     rw [Int.natCast_add,Int.add_mul]
     simp
     omega
   · rw [if_neg h]
     by_cases h2:c<i
     · rw [if_pos h2,if_pos (by omega)]
       simp
       omega
     · rw [if_neg h2,if_neg (by omega)]
       simp
def W1 (x:List Int) (j:Nat):Int:=max 0 (min (x.getD j 0) 15)+max 0 (yA ((j:Nat):Int))
def W2 (y:List Int) (j:Nat):Int:=max 0 (min (y.getD j 0) 15)+xA ((j:Nat):Int)
theorem yf (a:List Nat) (j:Nat):(ints a).getD j 0=((a.getD j 0:Nat):Int):=by
 unfold ints
 rw [List.getD_eq_getElem?_getD,List.getElem?_map,List.getD_eq_getElem?_getD]
 cases a[j]?<;>rfl
theorem Wz (f:Nat→Int) (n:Nat) (hf : ∀ j,n≤j→f j=0) : ∀ m,yj f (min n m)=yj f m
 | 0=>by rw [Nat.min_zero]
 | m+1=>by
   rw [yC,← Wz f n hf m]
   rcases Nat.lt_or_ge m n with h | h
   · rw [Nat.min_eq_right (show m+1≤n from h),Nat.min_eq_right (show m≤n by omega),yC]
   · rw [hf m h,Nat.min_eq_left (show n≤m+1 by omega),Nat.min_eq_left h,Int.add_zero]
theorem zdg (x u:List Int) (m:Nat) (hm:m≤300):yc x u (min (min x.length m) 300)=yj (fun j=>max 0 (min (x.getD j 0) 15)*ja (u.getD j 0)) m:=by
 rw [Zm,Nat.min_eq_left (show min x.length m≤300 by omega)]
 refine Wz _ _ (fun j hj=>?_) m
 rw [List.getD_eq_getElem?_getD,List.getElem?_eq_none hj]
 show max 0 (min (0:Int) 15)*_=0
 rw [show max 0 (min (0:Int) 15)=0 from rfl,Int.zero_mul]
theorem zdC (x y:List Int) (p:List Nat×List Nat) (hb : ∀ v∈p.1,v≤100001) (hb2 : ∀ v∈p.2,v≤100001) :
 yW x y p=yj (fun j=>(p.1.getD j 0:Nat)*W1 x j) 286+yj (fun j=>(p.2.getD j 0:Nat)*W2 y j) 30:=by
 have hn : ∀ (a:List Nat) (j:Nat),(∀ v∈a,v≤100001)→ja ((ints a).getD j 0)=((a.getD j 0:Nat):Int):=fun a j h=>by
  rw [yf]
  have:=jV h j
  unfold ja
  omega
 unfold yW
 rw [zdg _ _ 286 (by omega),zdg _ _ 30 (by omega)]
 have e1:yj (fun j=>max 0 (min (x.getD j 0) 15)*ja ((ints p.1).getD j 0)) 286+yj (jB p.1) 286=yj (fun j=>(p.1.getD j 0:Nat)*W1 x j) 286:=by
  rw [QM]
  refine JI _ (fun j _=>?_)
  rw [hn p.1 j hb]
  unfold jB W1
  rw [Int.mul_add,Int.mul_comm (max 0 (min (x.getD j 0) 15))]
 have e2:yj (fun j=>max 0 (min (y.getD j 0) 15)*ja ((ints p.2).getD j 0)) 30+yj (kp p.2) 30=yj (fun j=>(p.2.getD j 0:Nat)*W2 y j) 30:=by
  rw [QM]
  refine JI _ (fun j _=>?_)
  rw [hn p.2 j hb2]
  unfold kp W2
  rw [Int.mul_add,Int.mul_comm (max 0 (min (y.getD j 0) 15))]
 rw [← e1,← e2]
 omega
def qk (x y:List Int) (t:Tok):Int :=
 if t.long=0 then x.getD t.byte 0
 else x.getD (257+(zF t.long.toNat 29 0).getD 0) 0+(yO.getD ((zF t.long.toNat 29 0).getD 0) 0:Nat)+y.getD ((qi t.back.toNat 30 0).getD 0) 0+(dBt ((qi t.back.toNat 30 0).getD 0):Nat)
def vg (x y:List Int) (l:List Tok):Int:=l.foldl (fun n t=>n+qk x y t) (x.getD 256 0)
theorem Zv (x y:List Int) (l:List Tok) (t:Tok):vg x y (l++[t])=vg x y l+qk x y t:=by unfold vg; rw [List.foldl_append]; rfl
theorem Xc : ∀ c:Fin 257,yA ((c.val:Nat):Int) = -1:=by decide +kernel
theorem Zi : ∀ c:Fin 29,yA ((257+c.val:Nat):Int)=((yO.getD c.val 0:Nat):Int):=by decide +kernel
theorem Zg : ∀ c:Fin 30,xA ((c.val:Nat):Int)=((dBt c.val:Nat):Int):=by decide +kernel
theorem WU {x:List Int} (h : ∀ v∈x,0≤v∧v≤15) (j:Nat):max 0 (min (x.getD j 0) 15)=x.getD j 0:=by
 rw [List.getD_eq_getElem?_getD]
 cases e:x[j]? with
 | none=>rfl
 | some v =>
   have:=h v (List.mem_of_getElem? e)
   show max 0 (min v 15)=v
   omega
theorem kJ {t:Tok} (h:zr t):xw t<286:=by
 unfold xw
 unfold zr at h
 split
 · omega
 · have:=vP ⟨t.long.toNat,by omega⟩ (show 3≤t.long.toNat by omega)
   dsimp only at this
   cases e:zF t.long.toNat 29 0 with
   | none=>simp
   | some r=>rw [e] at this; simp at this; simp; omega
theorem kI {t:Tok} (h:zr t) (h0 : ¬ t.long=0):xT t<30:=by
 unfold xT
 unfold zr at h
 obtain ⟨r,h1,h2⟩:=qG t.back.toNat (by omega) (by omega)
 rw [h1]
 exact h2
theorem zd1 (x y:List Int) (p:List Nat×List Nat) (t:Tok) (hx : ∀ v∈x,0≤v∧v≤15) (hy : ∀ v∈y,0≤v∧v≤15) (ha:p.1.length=286) (hb:p.2.length=30) (ht:zr t) :
 yj (fun j=>((jE p t).1.getD j 0:Nat)*W1 x j) 286+yj (fun j=>((jE p t).2.getD j 0:Nat)*W2 y j) 30
  = yj (fun j=>(p.1.getD j 0:Nat)*W1 x j) 286+yj (fun j=>(p.2.getD j 0:Nat)*W2 y j) 30+qk x y t:=by
 have hl:=kJ ht
 have s1:=kW p.1 (xw t) (by omega) (W1 x) 286
 rw [if_pos hl] at s1
 unfold jE
 dsimp only
 rw [s1]
 by_cases h0:t.long=0
 · rw [if_pos h0]
   have hc:xw t=t.byte:=by unfold xw; rw [if_pos h0]
   have h256:t.byte<257:=by unfold zr at ht; omega
   have hB:=Xc ⟨t.byte,h256⟩
   dsimp only at hB
   unfold qk
   rw [if_pos h0,hc]
   unfold W1
   rw [WU hx,hB]
   omega
 · rw [if_neg h0]
   have hk:=kI ht h0
   have s2:=kW p.2 (xT t) (by omega) (W2 y) 30
   rw [if_pos hk] at s2
   rw [s2]
   have hc:xw t=257+(zF t.long.toNat 29 0).getD 0:=by unfold xw; rw [if_neg h0]
   have hkc:xT t=(qi t.back.toNat 30 0).getD 0:=rfl
   rw [hc] at hl ⊢
   rw [hkc] at hk ⊢
   unfold qk
   rw [if_neg h0]
   generalize (zF t.long.toNat 29 0).getD 0=r at *
   generalize (qi t.back.toNat 30 0).getD 0=q at *
   have e1:=Zi ⟨r,by omega⟩
   have e2:=Zg ⟨q,hk⟩
   dsimp only at e1 e2
   unfold W1 W2
   rw [WU hx,WU hy,e1,e2]
   omega
theorem YU (W:Nat→Int) : ∀ i,yj (fun j=>((List.replicate 30 0).getD j 0:Nat)*W j) i=0
 | 0=>rfl
 | i+1=>by
   rw [yC,YU W i,List.getD_eq_getElem?_getD,List.getElem?_replicate]
   split<;>simp
theorem zaK (W:Nat→Int) : ∀ i,yj (fun j=>((List.replicate 286 0).getD j 0:Nat)*W j) i=0
 | 0=>rfl
 | i+1=>by
   rw [yC,zaK W i,List.getD_eq_getElem?_getD,List.getElem?_replicate]
   split<;>simp
theorem jM (x y:List Int) (hx : ∀ v∈x,0≤v∧v≤15) (hy : ∀ v∈y,0≤v∧v≤15) (l:List Tok) (hn:l.length≤100000) (hok : ∀ t∈l,zr t) :
 yW x y (zk l)=vg x y l:=by
 have key : ∀ i,i≤l.length→yj (fun j=>((zk (l.take i)).1.getD j 0:Nat)*W1 x j) 286+yj (fun j=>((zk (l.take i)).2.getD j 0:Nat)*W2 y j) 30=vg x y (l.take i):=by
  intro i
  induction i with
  | zero =>
    intro _
    rw [List.take_zero,kt]
    dsimp only
    rw [YU]
    have e:(List.replicate 286 0).set 256 1=xu (List.replicate 286 0) 256:=rfl
    rw [e,kW _ _ (by rw [List.length_replicate]; omega),zaK,if_pos (by omega)]
    show 0+W1 x 256+0=x.getD 256 0
    have hB:=Xc ⟨256,by omega⟩
    dsimp only at hB
    unfold W1
    rw [WU hx,hB]
    omega
  | succ i ih =>
    intro h
    have hil:i<l.length:=by omega
    rw [List.take_succ_eq_append_getElem hil,jw,Zv,← ih (by omega)]
    have ho:=xt l i (by omega)
    exact zd1 x y _ _ hx hy ho.la ho.lb (hok _ (List.getElem_mem hil))
 have ho:=xt l l.length (Nat.le_refl _)
 have k:=key l.length (Nat.le_refl _)
 rw [List.take_length] at ho k
 rw [zdC x y _ (fun v hv=>by have:=ho.ba v hv; omega) (fun v hv=>by have:=ho.bb v hv; omega),k]
theorem VQ (x y:List Int) (hx : ∀ v∈x,0≤v∧v≤15) (hy : ∀ v∈y,0≤v∧v≤15) (l:List Tok) (hok : ∀ t∈l,zr t) : ∀ i,i≤l.length→0≤vg x y (l.take i)∧vg x y (l.take i)≤15+60*i
 | 0,_=>by
   rw [List.take_zero]
   show 0≤x.getD 256 0∧x.getD 256 0≤15+60*((0:Nat):Int)
   have:=WU hx 256
   omega
 | i+1,h=>by
   have hil:i<l.length:=by omega
   have ih:=VQ x y hx hy l hok i (by omega)
   rw [List.take_succ_eq_append_getElem hil,Zv]
   have hb:0≤qk x y l[i]∧qk x y l[i]≤60:=by
    unfold qk
    have d1:=WU hx l[i].byte
    split
    · omega
    · rename_i h0
      have hl:=kJ (hok _ (List.getElem_mem hil))
      have hk:=kI (hok _ (List.getElem_mem hil)) h0
      unfold xw at hl
      unfold xT at hk
      rw [if_neg h0] at hl
      have d2:=WU hx (257+(zF l[i].long.toNat 29 0).getD 0)
      have d3:=WU hy ((qi l[i].back.toNat 30 0).getD 0)
      generalize (zF l[i].long.toNat 29 0).getD 0=r at *
      generalize (qi l[i].back.toNat 30 0).getD 0=q at *
      have e1:=Zi ⟨r,by omega⟩
      have e2:=Zg ⟨q,hk⟩
      have b1:=WQ ⟨257+r,hl⟩
      have b2:=zaC ⟨q,hk⟩
      dsimp only at e1 e2 b1 b2
      omega
   have e:((i+1:Nat):Int)=(i:Int)+1:=by omega
   omega
end Go.Proofs.YtfkcdnaghndgfaaGreatDoor
