/- Package block: Body: its walk. -/
import Derived.Test.YtfkcdnaghndgfaaGreatDoorQBN
import Derived.Test.YtfkcdnaghndgfaaGreatDoorQBP
set_option linter.unusedVariables false
set_option linter.unusedSimpArgs false
set_option linter.unusedSectionVars false
namespace Go.Proofs.YtfkcdnaghndgfaaGreatDoor
open Go.RowKit
def yl (f:Nat→Int):Nat→Int
 | 0=>0
 | i+1=>yl f i+f i
theorem yD (f:Nat→Int) (i:Nat):yl f (i+1)=yl f i+f i:=rfl
theorem KX (f:Nat→Int) (M:Int) (hM:0≤M) : ∀ i,(∀ j,j<i→0≤f j∧f j≤M)→0≤yl f i∧yl f i≤i*M
 | 0,_=>by simp [yl]
 | i+1,h=>by
   have h1:=KX f M hM i (fun j hj=>h j (by omega))
   have h2:=h i (by omega)
   rw [yD]
   have e:((i+1:Nat):Int)*M=i*M+M:=by rw [Int.natCast_add,Int.add_mul]; simp
   rw [e]
   omega
theorem zaT : ∀ j:Fin 286,zT ((j.val:Nat):Int)≤13 ∧ -1≤zT ((j.val:Nat):Int):=by decide +kernel
theorem zaF : ∀ j:Fin 30,yJ ((j.val:Nat):Int)≤13∧0≤yJ ((j.val:Nat):Int):=by decide +kernel
def jO (A:List Nat) (j:Nat):Int:=(A.getD j 0:Nat)*max 0 (zT ((j:Nat):Int))
def kC (B:List Nat) (j:Nat):Int:=(B.getD j 0:Nat)*yJ ((j:Nat):Int)
theorem vg {A:List Nat} {M:Nat} (h : ∀ x∈A,x≤M) (j:Nat):A.getD j 0≤M:=by
 rw [List.getD_eq_getElem?_getD]
 cases h2:A[j]? with
 | none=>simp
 | some y=>exact h y (List.mem_of_getElem? h2)
theorem zhm {A:List Nat} (h : ∀ x∈A,x≤100001) (j:Nat) (hj:j<286):0≤jO A j∧jO A j≤1300013:=by
 have h1:=vg h j
 have h2:=zaT ⟨j,hj⟩
 dsimp only at h2
 unfold jO
 generalize A.getD j 0=x at *
 have h3:0≤max 0 (zT (j:Nat))∧max 0 (zT (j:Nat))≤13:=by omega
 generalize max 0 (zT (j:Nat))=m at *
 constructor
 · exact Int.mul_nonneg (by omega) h3.1
 · have:=Int.mul_le_mul (show (x:Int)≤100001 by omega) h3.2 h3.1 (by omega)
   omega
theorem zhc {B:List Nat} (h : ∀ x∈B,x≤100001) (j:Nat) (hj:j<30):0≤kC B j∧kC B j≤1300013:=by
 have h1:=vg h j
 have h2:=zaF ⟨j,hj⟩
 dsimp only at h2
 unfold kC
 generalize B.getD j 0=x at *
 generalize yJ (j:Nat)=m at *
 constructor
 · exact Int.mul_nonneg (by omega) h2.2
 · have:=Int.mul_le_mul (show (x:Int)≤100001 by omega) h2.1 h2.2 (by omega)
   omega
def ql (x y:List Int) (p:List Nat×List Nat):Int :=
 zW x (ints p.1) (min (min x.length 286) 300)+zW y (ints p.2) (min (min y.length 30) 300)+yl (jO p.1) 286+yl (kC p.2) 30
def zij (x y:List Int) (l:List Tok) (w:World) (e:Ending) (w':World):Prop:=e = .returned (.int .i64 (ql x y (zo l)))∧Upd [] w w'
set_option maxRecDepth 100000 in
set_option maxHeartbeats 6400000 in
theorem zgX (l:List Tok) (x y:List Int) (a ax ay:Option Addr) (n cap nx cx ny cy:Nat) (w:World) (hI:TokIn w a n l) (hn:n≤100000) (hok : ∀ t∈l,zH t)
 (hX:IntsIn w ax nx x) (hY:IntsIn w ay ny y) (hnx:nx≤9223372036854775807) (hny:ny≤9223372036854775807) :
 Calls Tryz.prog 129 #[.slice a n cap,.slice ax nx cx,.slice ay ny cy] w fun e w'=>zij x y l w e w':=by
 have HMA:=Lib.hid (WO l a n cap w hI hn hok)
 have HMO:=Lib.hid (by have:=qt l l.length (Nat.le_refl _); rw [List.take_length] at this; exact this)
 have HLN:=Lib.hid hI.len
 have HX:=Lib.hid hX
 have HY:=Lib.hid hY
 have hlx:=hX.len
 have hly:=hY.len
 subst hlx hly
 clear hI hok hX hY
 unfold zij
 obtain ⟨R,hR⟩ : ∃ R,ql x y (zo l)=R:=⟨_,rfl⟩
 rw [hR]
 unfold ql at hR
 have HRR:=Lib.hid hR
 clear hR
 unfold zfn at HMA
 generalize zo l=p at *
 obtain ⟨pa,pb⟩:=p
 dsimp only at HMA HRR
 go_enter Tryz.func129,Tryz.ntmps129
 go_wp2_with fail
 refine HMA.out.mono ?_
 rintro e w1 ⟨oa,ob,rfl,hA,hB,_,_,_,hU1⟩
 have hla:pa.length=286:=HMO.out.la
 have hlb:pb.length=30:=HMO.out.lb
 have hba : ∀ v∈pa,v≤100001:=fun v hv=>by have:=HMO.out.ba v hv; have:=HLN.out; omega
 have hbb : ∀ v∈pb,v≤100001:=fun v hv=>by have:=HMO.out.bb v hv; have:=HLN.out; omega
 have hIA:IntsIn w1 (some ⟨oa,0,none⟩) (ints pa).length (ints pa):=IntsIn.blk hA (by simp [ints]) (fun v hv=>by have:=hba v hv; omega)
 have hIB:IntsIn w1 (some ⟨ob,0,none⟩) (ints pb).length (ints pb):=IntsIn.blk hB (by simp [ints]) (fun v hv=>by have:=hbb v hv; omega)
 have hpa:(ints pa).length=286:=by simp [ints,hla]
 have hpb:(ints pb).length=30:=by simp [ints,hlb]
 have HC1:=Lib.hid (VG ax (some ⟨oa,0,none⟩) cx 286 x (ints pa) w1 (HX.out.pure hU1) hIA hnx (by omega))
 have HC2:=Lib.hid (fun w2 (h:Upd [] w1 w2)=>VG ay (some ⟨ob,0,none⟩) cy 30 y (ints pb) w2 ((HY.out.pure hU1).pure h) (hIB.pure h) hny (by omega))
 have hb1:=QC x (ints pa) (min (min x.length 286) 300)
 have hb2:=QC y (ints pb) (min (min y.length 30) 300)
 rw [hpa] at HC1
 rw [hpb] at HC2
 have hk1:((min (min x.length 286) 300:Nat):Int)≤300:=by omega
 have hk2:((min (min y.length 30) 300:Nat):Int)≤300:=by omega
 have hc1:0≤zW x (ints pa) (min (min x.length 286) 300)∧zW x (ints pa) (min (min x.length 286) 300)≤4947802324992000:=by omega
 have hc2:0≤zW y (ints pb) (min (min y.length 30) 300)∧zW y (ints pb) (min (min y.length 30) 300)≤4947802324992000:=by omega
 generalize zW x (ints pa) (min (min x.length 286) 300)=C1 at *
 generalize zW y (ints pb) (min (min y.length 30) 300)=C2 at *
 have hw0:IntKind.i64.wrap (C1+C2)=C1+C2:=IntWalk.i64_in _ (by omega)
 have HA:=Lib.hid hA
 have HB:=Lib.hid hB
 have HU1:=Lib.hid hU1
 have HLA:=Lib.hid hla
 have HLB:=Lib.hid hlb
 have HBA:=Lib.hid hba
 have HBB:=Lib.hid hbb
 clear hA hB hU1 hla hlb hba hbb hIA hIB hpa hpb hb1 hb2 hk1 hk2 HMA
 go_wp2_with fail
 refine HC1.out.mono ?_
 rintro e w2 ⟨rfl,q2,rfl⟩
 go_wp2_with fail
 refine (HC2.out _ ((Upd.refl [] w1).drewN q2)).mono ?_
 rintro e w3 ⟨rfl,q3,rfl⟩
 have HA3:=Lib.hid (HA.out.drewN (q2+q3))
 have HB3:=Lib.hid (HB.out.drewN (q2+q3))
 have HU3:=Lib.hid (HU1.out.drewN (q2+q3))
 clear HC1 HC2 HA HB HU1
 go_wp2
 generalize w1.drewN (q2+q3)=w4 at *
 have hCb:0≤C1+C2∧C1+C2≤9895604649984000:=by omega
 obtain ⟨C,hC⟩ : ∃ C,C1+C2=C:=⟨_,rfl⟩
 rw [hC] at hCb ⊢
 clear hw0 hc1 hc2
 have HC:=Lib.hid hC
 clear hC
 have HLS:Hid (∀ j,j<286→0≤jO pa j∧jO pa j≤1300013):=Lib.hid (fun j hj=>zhm HBA.out j hj)
 have HBS:Hid (∀ j,j<30→0≤kC pb j∧kC pb j≤1300013):=Lib.hid (fun j hj=>zhc HBB.out j hj)
 go_loopg [9,28] 1000 (fun gg s9 s28 wr => ∃ i:Nat,i≤286∧gg=1000-i∧s28 = .int .i64 (i:Nat)∧s9 = .int .i64 (C+yl (jO pa) i)∧Hid (Upd [] w4 wr))
 case atStart=>exact ⟨0,by omega,by omega,rfl,by rw [show yl (jO pa) 0=0 from rfl,Int.add_zero],Lib.hid (Upd.refl _ _)⟩
 case round =>
  obtain ⟨i,hi,rfl,rfl,rfl,HU⟩:=hrel
  have hsb:=KX (jO pa) 1300013 (by omega) i (fun j hj=>HLS.out j (by omega))
  have hsb2:yl (jO pa) i≤371803718:=by omega
  have hsb1:=hsb.1
  clear hsb
  by_cases hc:i<286
  · have hcz:(i:Int)<286:=by omega
    have hw1:IntKind.i64.wrap ((i:Int)+1)=((i+1:Nat):Int):=by rw [IntWalk.i64_in _ (by omega)]; rfl
    have hgt:pa[i]? =some (pa.getD i 0):=by rw [List.getD_eq_getElem?_getD,List.getElem?_eq_getElem (by rw [HLA.out]; exact hc)]; rfl
    have ca:=(HA3.out.upd HU.out (by simp)).cell i (zt pa i _ hgt)
    have HLB2:=Lib.hid (fun w'=>Qe i w' (by omega))
    have hx:=HLS.out i hc
    have HLX:Hid (jO pa i=(pa.getD i 0:Nat)*max 0 (zT ((i:Nat):Int))):=Lib.hid rfl
    have HSU:Hid (yl (jO pa) (i+1)=yl (jO pa) i+jO pa i):=Lib.hid rfl
    have hxm:((pa.getD i 0:Nat):Int)*max 0 (zT ((i:Nat):Int))=jO pa i:=rfl
    generalize jO pa i=X at *
    generalize yl (jO pa) i=S at *
    generalize zT ((i:Nat):Int)=B at *
    generalize pa.getD i 0=y at *
    have hwm:IntKind.i64.wrap ((y:Int)*max 0 B)=X:=by rw [hxm]; exact IntWalk.i64_in _ (by omega)
    have hws:IntKind.i64.wrap (C+S+X)=C+S+X:=IntWalk.i64_in _ (by omega)
    clear hxm hgt
    go_wp2_with fail
    refine (HLB2.out _).mono ?_
    rintro e w5 ⟨rfl,hU5⟩
    have HU5:=Lib.hid (HU.out.then hU5)
    clear hU5 HLB2
    go_wp2
    go_roundg (1000-(i+1))
    · exact ⟨i+1,by omega,by first | rfl | omega,by first | rfl | go_num,by rw [HSU.out]; congr 1; omega,HU5⟩
    · omega
  · have hcz : ¬ (i:Int)<286:=by omega
    obtain rfl:i=286:=by omega
    have HS1:Hid (yl (jO pa) 286=yl (jO pa) 286):=Lib.hid rfl
    obtain ⟨S1,hS1⟩ : ∃ S1,yl (jO pa) 286=S1:=⟨_,rfl⟩
    rw [hS1] at hsb1 hsb2 ⊢
    have HSE:=Lib.hid hS1
    obtain ⟨D,hD⟩ : ∃ D,C+S1=D:=⟨_,rfl⟩
    have hDb:0≤D∧D≤9895604649984000+371803718:=by omega
    have hDb2:D≤9895605021787718:=by omega
    rw [hD]
    have HD:=Lib.hid hD
    clear hS1 hD hDb HS1
    have hD0:0≤D:=by have:=HD.out; omega
    go_wp2
    go_loopg [9,43] 1000 (fun gg s9 s43 wq => ∃ k:Nat,k≤30∧gg=1000-k∧s43 = .int .i64 (k:Nat)∧s9 = .int .i64 (D+yl (kC pb) k)∧Hid (Upd [] w4 wq))
    case atStart=>exact ⟨0,by omega,by omega,rfl,by rw [show yl (kC pb) 0=0 from rfl,Int.add_zero],HU⟩
    case round =>
     obtain ⟨k,hk,rfl,rfl,rfl,HU⟩:=hrel
     have hsb:=KX (kC pb) 1300013 (by omega) k (fun j hj=>HBS.out j (by omega))
     have hsb3:yl (kC pb) k≤39000390:=by omega
     have hsb4:=hsb.1
     clear hsb
     by_cases hkc:k<30
     · have hkz:(k:Int)<30:=by omega
       have hw1:IntKind.i64.wrap ((k:Int)+1)=((k+1:Nat):Int):=by rw [IntWalk.i64_in _ (by omega)]; rfl
       have hgt:pb[k]? =some (pb.getD k 0):=by rw [List.getD_eq_getElem?_getD,List.getElem?_eq_getElem (by rw [HLB.out]; exact hkc)]; rfl
       have ca:=(HB3.out.upd HU.out (by simp)).cell k (zt pb k _ hgt)
       have HLB2:=Lib.hid (fun w'=>Qd ((k:Nat):Int) w')
       have hx:=HBS.out k hkc
       have HSU:Hid (yl (kC pb) (k+1)=yl (kC pb) k+kC pb k):=Lib.hid rfl
       have hxm:((pb.getD k 0:Nat):Int)*yJ ((k:Nat):Int)=kC pb k:=rfl
       generalize kC pb k=X at *
       generalize yl (kC pb) k=S at *
       generalize yJ ((k:Nat):Int)=B at *
       generalize pb.getD k 0=y at *
       have hwm:IntKind.i64.wrap ((y:Int)*B)=X:=by rw [hxm]; exact IntWalk.i64_in _ (by omega)
       have hws:IntKind.i64.wrap (D+S+X)=D+S+X:=IntWalk.i64_in _ (by omega)
       clear hxm hgt
       go_wp2_with fail
       refine (HLB2.out _).mono ?_
       rintro e w5 ⟨rfl,hU5⟩
       have HU5:=Lib.hid (HU.out.then hU5)
       clear hU5 HLB2
       go_wp2
       go_roundg (1000-(k+1))
       · exact ⟨k+1,by omega,by first | rfl | omega,by first | rfl | go_num,by rw [HSU.out]; congr 1; omega,HU5⟩
       · omega
     · have hkz : ¬ (k:Int)<30:=by omega
       obtain rfl:k=30:=by omega
       have HF:Hid (D+yl (kC pb) 30=R):=Lib.hid (by rw [← HRR.out,HC.out,HSE.out,HD.out])
       generalize yl (kC pb) 30=S3 at *
       generalize yl (jO pa) 286=S4 at *
       go_wp2
       go_ret
       exact ⟨by rw [← HF.out]; rfl,HU3.out.then HU.out⟩
end Go.Proofs.YtfkcdnaghndgfaaGreatDoor
namespace Go.Proofs.YtfkcdnaghndgfaaGreatDoor
theorem Zm (l u:List Int) : ∀ i,zW l u i=yl (fun j=>max 0 (min (l.getD j 0) 15)*jp (u.getD j 0)) i
 | 0=>rfl
 | i+1=>by rw [yD,zW,Zm l u i]
theorem QO (f g:Nat→Int) : ∀ i,yl f i+yl g i=yl (fun j=>f j+g j) i
 | 0=>rfl
 | i+1=>by rw [yD,yD,yD,← QO f g i]; omega
theorem JF {f g:Nat→Int} : ∀ i,(∀ j,j<i→f j=g j)→yl f i=yl g i
 | 0,_=>rfl
 | i+1,h=>by rw [yD,yD,JF i (fun j hj=>h j (by omega)),h i (by omega)]
theorem qO (a:List Nat) (c j:Nat) (hc:c<a.length):(xF a c).getD j 0=a.getD j 0+if j=c then 1 else 0:=by
 unfold xF
 by_cases h:j=c
 · subst h
   rw [if_pos rfl,List.getD_eq_getElem?_getD,List.getElem?_set_self hc]
   rfl
 · rw [if_neg h,List.getD_eq_getElem?_getD,List.getElem?_set_ne (Ne.symm h),List.getD_eq_getElem?_getD]
   rfl
theorem kS (a:List Nat) (c:Nat) (hc:c<a.length) (W:Nat→Int) : ∀ i,yl (fun j=>((xF a c).getD j 0:Nat)*W j) i=yl (fun j=>(a.getD j 0:Nat)*W j) i+if c<i then W c else 0
 | 0=>by simp [yl]
 | i+1=>by
   rw [yD,yD,kS a c hc W i,qO a c i hc]
   by_cases h:i=c
   · subst h
     rw [if_pos rfl,if_neg (by omega),if_pos (by omega)]
     rw [Int.natCast_add,Int.add_mul]
     simp
     omega
   · rw [if_neg h]
     by_cases h2:c<i
     · rw [if_pos h2,if_pos (by omega)]
       simp
       omega
     · rw [if_neg h2,if_neg (by omega)]
       simp
def W1 (x:List Int) (j:Nat):Int:=max 0 (min (x.getD j 0) 15)+max 0 (zT ((j:Nat):Int))
def W2 (y:List Int) (j:Nat):Int:=max 0 (min (y.getD j 0) 15)+yJ ((j:Nat):Int)
theorem zY (a:List Nat) (j:Nat):(ints a).getD j 0=((a.getD j 0:Nat):Int):=by
 unfold ints
 rw [List.getD_eq_getElem?_getD,List.getElem?_map,List.getD_eq_getElem?_getD]
 cases a[j]?<;>rfl
theorem Wf (f:Nat→Int) (n:Nat) (hf : ∀ j,n≤j→f j=0) : ∀ m,yl f (min n m)=yl f m
 | 0=>by rw [Nat.min_zero]
 | m+1=>by
   rw [yD,← Wf f n hf m]
   rcases Nat.lt_or_ge m n with h | h
   · rw [Nat.min_eq_right (show m+1≤n from h),Nat.min_eq_right (show m≤n by omega),yD]
   · rw [hf m h,Nat.min_eq_left (show n≤m+1 by omega),Nat.min_eq_left h,Int.add_zero]
theorem zc1 (x u:List Int) (m:Nat) (hm:m≤300):zW x u (min (min x.length m) 300)=yl (fun j=>max 0 (min (x.getD j 0) 15)*jp (u.getD j 0)) m:=by
 rw [Zm,Nat.min_eq_left (show min x.length m≤300 by omega)]
 refine Wf _ _ (fun j hj=>?_) m
 rw [List.getD_eq_getElem?_getD,List.getElem?_eq_none hj]
 show max 0 (min (0:Int) 15)*_=0
 rw [show max 0 (min (0:Int) 15)=0 from rfl,Int.zero_mul]
theorem zeZ (x y:List Int) (p:List Nat×List Nat) (hb : ∀ v∈p.1,v≤100001) (hb2 : ∀ v∈p.2,v≤100001) :
 ql x y p=yl (fun j=>(p.1.getD j 0:Nat)*W1 x j) 286+yl (fun j=>(p.2.getD j 0:Nat)*W2 y j) 30:=by
 have hn : ∀ (a:List Nat) (j:Nat),(∀ v∈a,v≤100001)→jp ((ints a).getD j 0)=((a.getD j 0:Nat):Int):=fun a j h=>by
  rw [zY]
  have:=vg h j
  unfold jp
  omega
 unfold ql
 rw [zc1 _ _ 286 (by omega),zc1 _ _ 30 (by omega)]
 have e1:yl (fun j=>max 0 (min (x.getD j 0) 15)*jp ((ints p.1).getD j 0)) 286+yl (jO p.1) 286=yl (fun j=>(p.1.getD j 0:Nat)*W1 x j) 286:=by
  rw [QO]
  refine JF _ (fun j _=>?_)
  rw [hn p.1 j hb]
  unfold jO W1
  rw [Int.mul_add,Int.mul_comm (max 0 (min (x.getD j 0) 15))]
 have e2:yl (fun j=>max 0 (min (y.getD j 0) 15)*jp ((ints p.2).getD j 0)) 30+yl (kC p.2) 30=yl (fun j=>(p.2.getD j 0:Nat)*W2 y j) 30:=by
  rw [QO]
  refine JF _ (fun j _=>?_)
  rw [hn p.2 j hb2]
  unfold kC W2
  rw [Int.mul_add,Int.mul_comm (max 0 (min (y.getD j 0) 15))]
 rw [← e1,← e2]
 omega
def qz (x y:List Int) (t:Tok):Int :=
 if t.long=0 then x.getD t.byte 0
 else x.getD (257+(zP t.long.toNat 29 0).getD 0) 0+(xC.getD ((zP t.long.toNat 29 0).getD 0) 0:Nat)+y.getD ((jb t.back.toNat 30 0).getD 0) 0+(dBt ((jb t.back.toNat 30 0).getD 0):Nat)
def kW (x y:List Int) (l:List Tok):Int:=l.foldl (fun n t=>n+qz x y t) (x.getD 256 0)
theorem Zg (x y:List Int) (l:List Tok) (t:Tok):kW x y (l++[t])=kW x y l+qz x y t:=by unfold kW; rw [List.foldl_append]; rfl
theorem ZW : ∀ c:Fin 257,zT ((c.val:Nat):Int) = -1:=by decide +kernel
theorem Zv : ∀ c:Fin 29,zT ((257+c.val:Nat):Int)=((xC.getD c.val 0:Nat):Int):=by decide +kernel
theorem Zz : ∀ c:Fin 30,yJ ((c.val:Nat):Int)=((dBt c.val:Nat):Int):=by decide +kernel
theorem zak {x:List Int} (h : ∀ v∈x,0≤v∧v≤15) (j:Nat):max 0 (min (x.getD j 0) 15)=x.getD j 0:=by
 rw [List.getD_eq_getElem?_getD]
 cases e:x[j]? with
 | none=>rfl
 | some v =>
   have:=h v (List.mem_of_getElem? e)
   show max 0 (min v 15)=v
   omega
theorem kL {t:Tok} (h:zH t):qn t<286:=by
 unfold qn
 unfold zH at h
 split
 · omega
 · have:=JV ⟨t.long.toNat,by omega⟩ (show 3≤t.long.toNat by omega)
   dsimp only at this
   cases e:zP t.long.toNat 29 0 with
   | none=>simp
   | some r=>rw [e] at this; simp at this; simp; omega
theorem kP {t:Tok} (h:zH t) (h0 : ¬ t.long=0):qM t<30:=by
 unfold qM
 unfold zH at h
 obtain ⟨r,h1,h2⟩:=jM t.back.toNat (by omega) (by omega)
 rw [h1]
 exact h2
theorem zeN (x y:List Int) (p:List Nat×List Nat) (t:Tok) (hx : ∀ v∈x,0≤v∧v≤15) (hy : ∀ v∈y,0≤v∧v≤15) (ha:p.1.length=286) (hb:p.2.length=30) (ht:zH t) :
 yl (fun j=>((jI p t).1.getD j 0:Nat)*W1 x j) 286+yl (fun j=>((jI p t).2.getD j 0:Nat)*W2 y j) 30
  = yl (fun j=>(p.1.getD j 0:Nat)*W1 x j) 286+yl (fun j=>(p.2.getD j 0:Nat)*W2 y j) 30+qz x y t:=by
 have hl:=kL ht
 have s1:=kS p.1 (qn t) (by omega) (W1 x) 286
 rw [if_pos hl] at s1
 unfold jI
 dsimp only
 rw [s1]
 by_cases h0:t.long=0
 · rw [if_pos h0]
   have hc:qn t=t.byte:=by unfold qn; rw [if_pos h0]
   have h256:t.byte<257:=by unfold zH at ht; omega
   have hB:=ZW ⟨t.byte,h256⟩
   dsimp only at hB
   unfold qz
   rw [if_pos h0,hc]
   unfold W1
   rw [zak hx,hB]
   omega
 · rw [if_neg h0]
   have hk:=kP ht h0
   have s2:=kS p.2 (qM t) (by omega) (W2 y) 30
   rw [if_pos hk] at s2
   rw [s2]
   have hc:qn t=257+(zP t.long.toNat 29 0).getD 0:=by unfold qn; rw [if_neg h0]
   have hkc:qM t=(jb t.back.toNat 30 0).getD 0:=rfl
   rw [hc] at hl ⊢
   rw [hkc] at hk ⊢
   unfold qz
   rw [if_neg h0]
   generalize (zP t.long.toNat 29 0).getD 0=r at *
   generalize (jb t.back.toNat 30 0).getD 0=q at *
   have e1:=Zv ⟨r,by omega⟩
   have e2:=Zz ⟨q,hk⟩
   dsimp only at e1 e2
   unfold W1 W2
   rw [zak hx,zak hy,e1,e2]
   omega
theorem Vj (W:Nat→Int) : ∀ i,yl (fun j=>((List.replicate 30 0).getD j 0:Nat)*W j) i=0
 | 0=>rfl
 | i+1=>by
   rw [yD,Vj W i,List.getD_eq_getElem?_getD,List.getElem?_replicate]
   split<;>simp
theorem zac (W:Nat→Int) : ∀ i,yl (fun j=>((List.replicate 286 0).getD j 0:Nat)*W j) i=0
 | 0=>rfl
 | i+1=>by
   rw [yD,zac W i,List.getD_eq_getElem?_getD,List.getElem?_replicate]
   split<;>simp
theorem JG (x y:List Int) (hx : ∀ v∈x,0≤v∧v≤15) (hy : ∀ v∈y,0≤v∧v≤15) (l:List Tok) (hn:l.length≤100000) (hok : ∀ t∈l,zH t) :
 ql x y (zo l)=kW x y l:=by
 have key : ∀ i,i≤l.length→yl (fun j=>((zo (l.take i)).1.getD j 0:Nat)*W1 x j) 286+yl (fun j=>((zo (l.take i)).2.getD j 0:Nat)*W2 y j) 30=kW x y (l.take i):=by
  intro i
  induction i with
  | zero =>
    intro _
    rw [List.take_zero,kI]
    dsimp only
    rw [Vj]
    have e:(List.replicate 286 0).set 256 1=xF (List.replicate 286 0) 256:=rfl
    rw [e,kS _ _ (by rw [List.length_replicate]; omega),zac,if_pos (by omega)]
    show 0+W1 x 256+0=x.getD 256 0
    have hB:=ZW ⟨256,by omega⟩
    dsimp only at hB
    unfold W1
    rw [zak hx,hB]
    omega
  | succ i ih =>
    intro h
    have hil:i<l.length:=by omega
    rw [List.take_succ_eq_append_getElem hil,jT,Zg,← ih (by omega)]
    have ho:=qt l i (by omega)
    exact zeN x y _ _ hx hy ho.la ho.lb (hok _ (List.getElem_mem hil))
 have ho:=qt l l.length (Nat.le_refl _)
 have k:=key l.length (Nat.le_refl _)
 rw [List.take_length] at ho k
 rw [zeZ x y _ (fun v hv=>by have:=ho.ba v hv; omega) (fun v hv=>by have:=ho.bb v hv; omega),k]
theorem VR (x y:List Int) (hx : ∀ v∈x,0≤v∧v≤15) (hy : ∀ v∈y,0≤v∧v≤15) (l:List Tok) (hok : ∀ t∈l,zH t) : ∀ i,i≤l.length→0≤kW x y (l.take i)∧kW x y (l.take i)≤15+60*i
 | 0,_=>by
   rw [List.take_zero]
   show 0≤x.getD 256 0∧x.getD 256 0≤15+60*((0:Nat):Int)
   have:=zak hx 256
   omega
 | i+1,h=>by
   have hil:i<l.length:=by omega
   have ih:=VR x y hx hy l hok i (by omega)
   rw [List.take_succ_eq_append_getElem hil,Zg]
   have hb:0≤qz x y l[i]∧qz x y l[i]≤60:=by
    unfold qz
    have d1:=zak hx l[i].byte
    split
    · omega
    · rename_i h0
      have hl:=kL (hok _ (List.getElem_mem hil))
      have hk:=kP (hok _ (List.getElem_mem hil)) h0
      unfold qn at hl
      unfold qM at hk
      rw [if_neg h0] at hl
      have d2:=zak hx (257+(zP l[i].long.toNat 29 0).getD 0)
      have d3:=zak hy ((jb l[i].back.toNat 30 0).getD 0)
      generalize (zP l[i].long.toNat 29 0).getD 0=r at *
      generalize (jb l[i].back.toNat 30 0).getD 0=q at *
      have e1:=Zv ⟨r,by omega⟩
      have e2:=Zz ⟨q,hk⟩
      have b1:=zaT ⟨257+r,hl⟩
      have b2:=zaF ⟨q,hk⟩
      dsimp only at e1 e2 b1 b2
      omega
   have e:((i+1:Nat):Int)=(i:Int)+1:=by omega
   omega
end Go.Proofs.YtfkcdnaghndgfaaGreatDoor
