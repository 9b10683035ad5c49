/- Package block: Body: its walk. -/
import Derived.Test.YtfkenhihcmmgkaaGreatDoorQBO
set_option linter.unusedVariables false
set_option linter.unusedSimpArgs false
set_option linter.unusedSectionVars false
set_option maxRecDepth 100000
set_option maxHeartbeats 12800000
namespace Go.Proofs.YtfkenhihcmmgkaaGreatDoor
open Go.RowKit
def yt (f:Nat→Int):Nat→Int
 | 0=>0
 | i+1=>yt f i+f i
theorem yJ (f:Nat→Int) (i:Nat):yt f (i+1)=yt f i+f i:=rfl
theorem Wi (f:Nat→Int) (M:Int) (hM:0≤M) : ∀ i,(∀ j,j<i→0≤f j∧f j≤M)→0≤yt f i∧yt f i≤i*M
 | 0,_=>by simp [yt]
 | i+1,h=>by
   have h1:=Wi f M hM i (fun j hj=>h j (by omega));have h2:=h i (by omega);rw [yJ];have e:((i+1:Nat):Int)*M=i*M+M:=(by rw [Int.natCast_add,Int.add_mul]; simp);rw [e];omega
theorem zaR : ∀ j:Fin 286,ye ((j.val:Nat):Int)≤13 ∧ -1≤ye ((j.val:Nat):Int):=by decide +kernel
theorem zax : ∀ j:Fin 30,yP ((j.val:Nat):Int)≤13∧0≤yP ((j.val:Nat):Int):=by decide +kernel
def jO (A:List Nat) (j:Nat):Int:=(A.getD j 0:Nat)*max 0 (ye ((j:Nat):Int))
def kx (B:List Nat) (j:Nat):Int:=(B.getD j 0:Nat)*yP ((j:Nat):Int)
theorem Jj {A:List Nat} {M:Nat} (h : ∀ x∈A,x≤M) (j:Nat):A.getD j 0≤M:=by
 rw [List.getD_eq_getElem?_getD];cases h2:A[j]? with
 | none=>simp
 | some y=>exact h y (List.mem_of_getElem? h2)
theorem zij {A:List Nat} (h : ∀ x∈A,x≤100001) (j:Nat) (hj:j<286):0≤jO A j∧jO A j≤1300013:=by
 have h1:=Jj h j;have h2:=zaR ⟨j,hj⟩;dsimp only at h2;unfold jO;generalize A.getD j 0=x at *;have h3:0≤max 0 (ye (j:Nat))∧max 0 (ye (j:Nat))≤13:=by omega
 generalize max 0 (ye (j:Nat))=m at *;constructor
 · exact Int.mul_nonneg (by omega) h3.1
 · have:=Int.mul_le_mul (show (x:Int)≤100001 by omega) h3.2 h3.1 (by omega);omega
theorem ziX {B:List Nat} (h : ∀ x∈B,x≤100001) (j:Nat) (hj:j<30):0≤kx B j∧kx B j≤1300013:=by
 have h1:=Jj h j;have h2:=zax ⟨j,hj⟩;dsimp only at h2;unfold kx;generalize B.getD j 0=x at *;generalize yP (j:Nat)=m at *;constructor
 · exact Int.mul_nonneg (by omega) h2.2
 · have:=Int.mul_le_mul (show (x:Int)≤100001 by omega) h2.1 h2.2 (by omega);omega
def qM (x y:List Int) (p:List Nat×List Nat):Int :=
 yg x (ints p.1) (min (min x.length 286) 300)+yg y (ints p.2) (min (min y.length 30) 300)+yt (jO p.1) 286+yt (kx p.2) 30
def zjh (x y:List Int) (l:List Tok) (w:World) (e:Ending) (w':World):Prop:=e = .returned (.int .i64 (qM x y (zt l)))∧Upd [] w w'
theorem zgr (l:List Tok) (x y:List Int) (a ax ay:Option Addr) (n cap nx cx ny cy:Nat) (w:World) (hI:TokIn w a n l) (hn:n≤100000) (hok : ∀ t∈l,yu t)
 (hX:IntsIn w ax nx x) (hY:IntsIn w ay ny y) (hnx:nx≤9223372036854775807) (hny:ny≤9223372036854775807) :
 Calls Tryz.prog 263 #[.slice a n cap,.slice ax nx cx,.slice ay ny cy] w fun e w'=>zjh x y l w e w':=by
 have HMA:=Hi (zbq l a n cap w hI hn hok);have HMO:=Hi (by have:=qV l l.length (Nat.le_refl _); rw [List.take_length] at this; exact this);have HLN:=Hi hI.len;have HX:=Hi hX;have HY:=Hi hY;have hlx:=hX.len;have hly:=hY.len;subst hlx hly;clear hI hok hX hY;unfold zjh;obtain ⟨R,hR⟩ : ∃ R,qM x y (zt l)=R:=⟨_,rfl⟩;rw [hR];unfold qM at hR;have HRR:=Hi hR;clear hR;unfold zgj at HMA;generalize zt l=p at *;obtain ⟨pa,pb⟩:=p;dsimp only at HMA HRR;go_enter Tryz.func263,Tryz.ntmps263;go_wp2_with fail
 refine HMA.out.mono ?_;rintro e w1 ⟨oa,ob,rfl,hA,hB,_,_,_,hU1⟩;have hla:pa.length=286:=HMO.out.la;have hlb:pb.length=30:=HMO.out.lb;have hba : ∀ v∈pa,v≤100001:=fun v hv=>by have:=HMO.out.ba v hv; have:=HLN.out; omega
 have hbb : ∀ v∈pb,v≤100001:=fun v hv=>by have:=HMO.out.bb v hv; have:=HLN.out; omega
 have hIA:IntsIn w1 (some ⟨oa,0,none⟩) (ints pa).length (ints pa):=IntsIn.blk hA (by simp [ints]) (fun v hv=>by have:=hba v hv; omega);have hIB:IntsIn w1 (some ⟨ob,0,none⟩) (ints pb).length (ints pb):=IntsIn.blk hB (by simp [ints]) (fun v hv=>by have:=hbb v hv; omega);have hpa:(ints pa).length=286:=by simp [ints,hla]
 have hpb:(ints pb).length=30:=by simp [ints,hlb]
 have HC1:=Hi (Vh ax (some ⟨oa,0,none⟩) cx 286 x (ints pa) w1 (HX.out.pure hU1) hIA hnx (by omega));have HC2:=Hi (fun w2 (h:Upd [] w1 w2)=>Vh ay (some ⟨ob,0,none⟩) cy 30 y (ints pb) w2 ((HY.out.pure hU1).pure h) (hIB.pure h) hny (by omega));have hb1:=Zk x (ints pa) (min (min x.length 286) 300);have hb2:=Zk y (ints pb) (min (min y.length 30) 300);rw [hpa] at HC1;rw [hpb] at HC2;have hk1:((min (min x.length 286) 300:Nat):Int)≤300:=by omega
 have hk2:((min (min y.length 30) 300:Nat):Int)≤300:=by omega
 have hc1:0≤yg x (ints pa) (min (min x.length 286) 300)∧yg x (ints pa) (min (min x.length 286) 300)≤4947802324992000:=by omega
 have hc2:0≤yg y (ints pb) (min (min y.length 30) 300)∧yg y (ints pb) (min (min y.length 30) 300)≤4947802324992000:=by omega
 generalize yg x (ints pa) (min (min x.length 286) 300)=C1 at *;generalize yg y (ints pb) (min (min y.length 30) 300)=C2 at *;have hw0:IntKind.i64.wrap (C1+C2)=C1+C2:=IntWalk.i64_in _ (by omega);have HA:=Hi hA;have HB:=Hi hB;have HU1:=Hi hU1;have HLA:=Hi hla;have HLB:=Hi hlb;have HBA:=Hi hba;have HBB:=Hi hbb;clear hA hB hU1 hla hlb hba hbb hIA hIB hpa hpb hb1 hb2 hk1 hk2 HMA;go_wp2_with fail
 refine HC1.out.mono ?_;rintro e w2 ⟨rfl,q2,rfl⟩;go_wp2_with fail
 refine (HC2.out _ ((Upd.refl [] w1).drewN q2)).mono ?_;rintro e w3 ⟨rfl,q3,rfl⟩;have HA3:=Hi (HA.out.drewN (q2+q3));have HB3:=Hi (HB.out.drewN (q2+q3));have HU3:=Hi (HU1.out.drewN (q2+q3));clear HC1 HC2 HA HB HU1;go_wp2;generalize w1.drewN (q2+q3)=w4 at *;have hCb:0≤C1+C2∧C1+C2≤9895604649984000:=by omega
 obtain ⟨C,hC⟩ : ∃ C,C1+C2=C:=⟨_,rfl⟩;rw [hC] at hCb ⊢;clear hw0 hc1 hc2;have HC:=Hi hC;clear hC;have HLS:Hid (∀ j,j<286→0≤jO pa j∧jO pa j≤1300013):=Hi (fun j hj=>zij HBA.out j hj);have HBS:Hid (∀ j,j<30→0≤kx pb j∧kx pb j≤1300013):=Hi (fun j hj=>ziX HBB.out j hj);go_loopg [9,28] 1000 (fun gg s9 s28 wr => ∃ i:Nat,i≤286∧gg=1000-i∧s28 = .int .i64 (i:Nat)∧s9 = .int .i64 (C+yt (jO pa) i)∧Hid (Upd [] w4 wr))
 case atStart=>exact ⟨0,by omega,by omega,rfl,by rw [show yt (jO pa) 0=0 from rfl,Int.add_zero],Hi (Upd.refl _ _)⟩
 case round =>
  obtain ⟨i,hi,rfl,rfl,rfl,HU⟩:=hrel;have hsb:=Wi (jO pa) 1300013 (by omega) i (fun j hj=>HLS.out j (by omega));have hsb2:yt (jO pa) i≤371803718:=by omega
  have hsb1:=hsb.1;clear hsb;by_cases hc:i<286
  · have hcz:(i:Int)<286:=(by omega);have hw1:IntKind.i64.wrap ((i:Int)+1)=((i+1:Nat):Int):=(by rw [IntWalk.i64_in _ (by omega)]; rfl);have hgt:pa[i]? =some (pa.getD i 0):=(by rw [List.getD_eq_getElem?_getD,List.getElem?_eq_getElem (by rw [HLA.out]; exact hc)]; rfl);have ca:=(HA3.out.upd HU.out (by simp)).cell i (zB pa i _ hgt);have HLB2:=Hi (fun w'=>Qt i w' (by omega));have hx:=HLS.out i hc;have HLX:Hid (jO pa i=(pa.getD i 0:Nat)*max 0 (ye ((i:Nat):Int))):=Hi rfl;have HSU:Hid (yt (jO pa) (i+1)=yt (jO pa) i+jO pa i):=Hi rfl;have hxm:((pa.getD i 0:Nat):Int)*max 0 (ye ((i:Nat):Int))=jO pa i:=rfl;generalize jO pa i=X at *;generalize yt (jO pa) i=S at *;generalize ye ((i:Nat):Int)=B at *;generalize pa.getD i 0=y at *;have hwm:IntKind.i64.wrap ((y:Int)*max 0 B)=X:=(by rw [hxm]; exact IntWalk.i64_in _ (by omega));have hws:IntKind.i64.wrap (C+S+X)=C+S+X:=IntWalk.i64_in _ (by omega);clear hxm hgt;(go_wp2_with fail);refine (HLB2.out _).mono ?_;rintro e w5 ⟨rfl,hU5⟩;have HU5:=Hi (HU.out.then hU5);clear hU5 HLB2;go_wp2;go_roundg (1000-(i+1))
    · exact ⟨i+1,by omega,by first | rfl | omega,by first | rfl | go_num,by rw [HSU.out]; congr 1; omega,HU5⟩
    · omega
  · have hcz : ¬ (i:Int)<286:=(by omega);obtain rfl:i=286:=(by omega);have HS1:Hid (yt (jO pa) 286=yt (jO pa) 286):=Hi rfl;obtain ⟨S1,hS1⟩ : ∃ S1,yt (jO pa) 286=S1:=⟨_,rfl⟩;rw [hS1] at hsb1 hsb2 ⊢;have HSE:=Hi hS1;obtain ⟨D,hD⟩ : ∃ D,C+S1=D:=⟨_,rfl⟩;have hDb:0≤D∧D≤9895604649984000+371803718:=(by omega);have hDb2:D≤9895605021787718:=(by omega);rw [hD];have HD:=Hi hD;clear hS1 hD hDb HS1;have hD0:0≤D:=(by have:=HD.out; omega);go_wp2;go_loopg [9,43] 1000 (fun gg s9 s43 wq => ∃ k:Nat,k≤30∧gg=1000-k∧s43 = .int .i64 (k:Nat)∧s9 = .int .i64 (D+yt (kx pb) k)∧Hid (Upd [] w4 wq))
    case atStart=>exact ⟨0,by omega,by omega,rfl,by rw [show yt (kx pb) 0=0 from rfl,Int.add_zero],HU⟩
    case round =>
     obtain ⟨k,hk,rfl,rfl,rfl,HU⟩:=hrel;have hsb:=Wi (kx pb) 1300013 (by omega) k (fun j hj=>HBS.out j (by omega));have hsb3:yt (kx pb) k≤39000390:=(by omega);have hsb4:=hsb.1;clear hsb;by_cases hkc:k<30
     · have hkz:(k:Int)<30:=(by omega);have hw1:IntKind.i64.wrap ((k:Int)+1)=((k+1:Nat):Int):=(by rw [IntWalk.i64_in _ (by omega)]; rfl);have hgt:pb[k]? =some (pb.getD k 0):=(by rw [List.getD_eq_getElem?_getD,List.getElem?_eq_getElem (by rw [HLB.out]; exact hkc)]; rfl);have ca:=(HB3.out.upd HU.out (by simp)).cell k (zB pb k _ hgt);have HLB2:=Hi (fun w'=>Qm ((k:Nat):Int) w');have hx:=HBS.out k hkc;have HSU:Hid (yt (kx pb) (k+1)=yt (kx pb) k+kx pb k):=Hi rfl;have hxm:((pb.getD k 0:Nat):Int)*yP ((k:Nat):Int)=kx pb k:=rfl;generalize kx pb k=X at *;generalize yt (kx pb) k=S at *;generalize yP ((k:Nat):Int)=B at *;generalize pb.getD k 0=y at *;have hwm:IntKind.i64.wrap ((y:Int)*B)=X:=(by rw [hxm]; exact IntWalk.i64_in _ (by omega));have hws:IntKind.i64.wrap (D+S+X)=D+S+X:=IntWalk.i64_in _ (by omega);clear hxm hgt;(go_wp2_with fail);refine (HLB2.out _).mono ?_;rintro e w5 ⟨rfl,hU5⟩;have HU5:=Hi (HU.out.then hU5);clear hU5 HLB2;go_wp2;go_roundg (1000-(k+1))
       · exact ⟨k+1,by omega,by first | rfl | omega,by first | rfl | go_num,by rw [HSU.out]; congr 1; omega,HU5⟩
       · omega
     · have hkz : ¬ (k:Int)<30:=(by omega);obtain rfl:k=30:=(by omega);have HF:Hid (D+yt (kx pb) 30=R):=Hi (by rw [← HRR.out,HC.out,HSE.out,HD.out]);generalize yt (kx pb) 30=S3 at *;generalize yt (jO pa) 286=S4 at *;go_wp2;go_ret;exact ⟨by rw [← HF.out]; rfl,HU3.out.then HU.out⟩
end Go.Proofs.YtfkenhihcmmgkaaGreatDoor
namespace Go.Proofs.YtfkenhihcmmgkaaGreatDoor
theorem Zz (l u:List Int) : ∀ i,yg l u i=yt (fun j=>max 0 (min (l.getD j 0) 15)*jp (u.getD j 0)) i
 | 0=>rfl
 | i+1=>by rw [yJ,yg,Zz l u i]
theorem QW (f g:Nat→Int) : ∀ i,yt f i+yt g i=yt (fun j=>f j+g j) i
 | 0=>rfl
 | i+1=>by rw [yJ,yJ,yJ,← QW f g i]; omega
theorem JP {f g:Nat→Int} : ∀ i,(∀ j,j<i→f j=g j)→yt f i=yt g i
 | 0,_=>rfl
 | i+1,h=>by rw [yJ,yJ,JP i (fun j hj=>h j (by omega)),h i (by omega)]
theorem qO (a:List Nat) (c j:Nat) (hc:c<a.length):(qK a c).getD j 0=a.getD j 0+if j=c then 1 else 0:=by
 unfold qK;by_cases h:j=c
 · subst h;rw [if_pos rfl,List.getD_eq_getElem?_getD,List.getElem?_set_self hc];rfl
 · rw [if_neg h,List.getD_eq_getElem?_getD,List.getElem?_set_ne (Ne.symm h),List.getD_eq_getElem?_getD];rfl
theorem kO (a:List Nat) (c:Nat) (hc:c<a.length) (W:Nat→Int) : ∀ i,yt (fun j=>((qK a c).getD j 0:Nat)*W j) i=yt (fun j=>(a.getD j 0:Nat)*W j) i+if c<i then W c else 0
 | 0=>by simp [yt]
 | i+1=>by
   rw [yJ,yJ,kO a c hc W i,qO a c i hc];by_cases h:i=c
   · subst h;rw [if_pos rfl,if_neg (by omega),if_pos (by omega)];rw [Int.natCast_add,Int.add_mul];simp;omega
   · rw [if_neg h];by_cases h2:c<i
     · rw [if_pos h2,if_pos (by omega)];simp;omega
     · rw [if_neg h2,if_neg (by omega)];simp
def W1 (x:List Int) (j:Nat):Int:=max 0 (min (x.getD j 0) 15)+max 0 (ye ((j:Nat):Int))
def W2 (y:List Int) (j:Nat):Int:=max 0 (min (y.getD j 0) 15)+yP ((j:Nat):Int)
theorem yh (a:List Nat) (j:Nat):(ints a).getD j 0=((a.getD j 0:Nat):Int):=by
 unfold ints;rw [List.getD_eq_getElem?_getD,List.getElem?_map,List.getD_eq_getElem?_getD];cases a[j]?<;>rfl
theorem zay (f:Nat→Int) (n:Nat) (hf : ∀ j,n≤j→f j=0) : ∀ m,yt f (min n m)=yt f m
 | 0=>by rw [Nat.min_zero]
 | m+1=>by
   rw [yJ,← zay f n hf m];rcases Nat.lt_or_ge m n with h | h
   · rw [Nat.min_eq_right (show m+1≤n from h),Nat.min_eq_right (show m≤n by omega),yJ]
   · rw [hf m h,Nat.min_eq_left (show n≤m+1 by omega),Nat.min_eq_left h,Int.add_zero]
theorem zdN (x u:List Int) (m:Nat) (hm:m≤300):yg x u (min (min x.length m) 300)=yt (fun j=>max 0 (min (x.getD j 0) 15)*jp (u.getD j 0)) m:=by
 rw [Zz,Nat.min_eq_left (show min x.length m≤300 by omega)];refine zay _ _ (fun j hj=>?_) m;rw [List.getD_eq_getElem?_getD,List.getElem?_eq_none hj];show max 0 (min (0:Int) 15)*_=0;rw [show max 0 (min (0:Int) 15)=0 from rfl,Int.zero_mul]
theorem zei (x y:List Int) (p:List Nat×List Nat) (hb : ∀ v∈p.1,v≤100001) (hb2 : ∀ v∈p.2,v≤100001) :
 qM x y p=yt (fun j=>(p.1.getD j 0:Nat)*W1 x j) 286+yt (fun j=>(p.2.getD j 0:Nat)*W2 y j) 30:=by
 have hn : ∀ (a:List Nat) (j:Nat),(∀ v∈a,v≤100001)→jp ((ints a).getD j 0)=((a.getD j 0:Nat):Int):=fun a j h=>by
  rw [yh];have:=Jj h j;unfold jp;omega
 unfold qM;rw [zdN _ _ 286 (by omega),zdN _ _ 30 (by omega)];have e1:yt (fun j=>max 0 (min (x.getD j 0) 15)*jp ((ints p.1).getD j 0)) 286+yt (jO p.1) 286=yt (fun j=>(p.1.getD j 0:Nat)*W1 x j) 286:=by
  rw [QW];refine JP _ (fun j _=>?_);rw [hn p.1 j hb];unfold jO W1;rw [Int.mul_add,Int.mul_comm (max 0 (min (x.getD j 0) 15))]
 have e2:yt (fun j=>max 0 (min (y.getD j 0) 15)*jp ((ints p.2).getD j 0)) 30+yt (kx p.2) 30=yt (fun j=>(p.2.getD j 0:Nat)*W2 y j) 30:=by
  rw [QW];refine JP _ (fun j _=>?_);rw [hn p.2 j hb2];unfold kx W2;rw [Int.mul_add,Int.mul_comm (max 0 (min (y.getD j 0) 15))]
 rw [← e1,← e2];omega
def qw (x y:List Int) (t:Tok):Int :=
 if t.long=0 then x.getD t.byte 0
 else x.getD (257+(yU t.long.toNat 29 0).getD 0) 0+(jK.getD ((yU t.long.toNat 29 0).getD 0) 0:Nat)+y.getD ((ky t.back.toNat 30 0).getD 0) 0+(dBt ((ky t.back.toNat 30 0).getD 0):Nat)
def kL (x y:List Int) (l:List Tok):Int:=l.foldl (fun n t=>n+qw x y t) (x.getD 256 0)
theorem ZQ (x y:List Int) (l:List Tok) (t:Tok):kL x y (l++[t])=kL x y l+qw x y t:=by unfold kL; rw [List.foldl_append]; rfl
theorem Yj : ∀ c:Fin 257,ye ((c.val:Nat):Int) = -1:=by decide +kernel
theorem ZG : ∀ c:Fin 29,ye ((257+c.val:Nat):Int)=((jK.getD c.val 0:Nat):Int):=by decide +kernel
theorem ZR : ∀ c:Fin 30,yP ((c.val:Nat):Int)=((dBt c.val:Nat):Int):=by decide +kernel
theorem WR {x:List Int} (h : ∀ v∈x,0≤v∧v≤15) (j:Nat):max 0 (min (x.getD j 0) 15)=x.getD j 0:=by
 rw [List.getD_eq_getElem?_getD];cases e:x[j]? with
 | none=>rfl
 | some v =>
   have:=h v (List.mem_of_getElem? e);show max 0 (min v 15)=v;omega
theorem Jl {t:Tok} (h:yu t):jU t<286:=by
 unfold jU;unfold yu at h;split
 · omega
 · have:=zhg ⟨t.long.toNat,by omega⟩ (show 3≤t.long.toNat by omega);dsimp only at this;cases e:yU t.long.toNat 29 0 with
   | none=>simp
   | some r=>rw [e] at this; simp at this; simp; omega
theorem Jp {t:Tok} (h:yu t) (h0 : ¬ t.long=0):vJ t<30:=by
 unfold vJ;unfold yu at h;obtain ⟨r,h1,h2⟩:=zcu t.back.toNat (by omega) (by omega);rw [h1];exact h2
theorem zfg (x y:List Int) (p:List Nat×List Nat) (t:Tok) (hx : ∀ v∈x,0≤v∧v≤15) (hy : ∀ v∈y,0≤v∧v≤15) (ha:p.1.length=286) (hb:p.2.length=30) (ht:yu t) :
 yt (fun j=>((kq p t).1.getD j 0:Nat)*W1 x j) 286+yt (fun j=>((kq p t).2.getD j 0:Nat)*W2 y j) 30
  = yt (fun j=>(p.1.getD j 0:Nat)*W1 x j) 286+yt (fun j=>(p.2.getD j 0:Nat)*W2 y j) 30+qw x y t:=by
 have hl:=Jl ht;have s1:=kO p.1 (jU t) (by omega) (W1 x) 286;rw [if_pos hl] at s1;unfold kq;dsimp only;rw [s1];by_cases h0:t.long=0
 · rw [if_pos h0];have hc:jU t=t.byte:=(by unfold jU; rw [if_pos h0]);have h256:t.byte<257:=(by unfold yu at ht; omega);have hB:=Yj ⟨t.byte,h256⟩;dsimp only at hB;unfold qw;rw [if_pos h0,hc];unfold W1;rw [WR hx,hB];omega
 · rw [if_neg h0];have hk:=Jp ht h0;have s2:=kO p.2 (vJ t) (by omega) (W2 y) 30;rw [if_pos hk] at s2;rw [s2];have hc:jU t=257+(yU t.long.toNat 29 0).getD 0:=(by unfold jU; rw [if_neg h0]);have hkc:vJ t=(ky t.back.toNat 30 0).getD 0:=rfl;rw [hc] at hl ⊢;rw [hkc] at hk ⊢;unfold qw;rw [if_neg h0];generalize (yU t.long.toNat 29 0).getD 0=r at *;generalize (ky t.back.toNat 30 0).getD 0=q at *;have e1:=ZG ⟨r,by omega⟩;have e2:=ZR ⟨q,hk⟩;dsimp only at e1 e2;unfold W1 W2;rw [WR hx,WR hy,e1,e2];omega
theorem Vt (W:Nat→Int) : ∀ i,yt (fun j=>((List.replicate 30 0).getD j 0:Nat)*W j) i=0
 | 0=>rfl
 | i+1=>by
   rw [yJ,Vt W i,List.getD_eq_getElem?_getD,List.getElem?_replicate];split<;>simp
theorem WD (W:Nat→Int) : ∀ i,yt (fun j=>((List.replicate 286 0).getD j 0:Nat)*W j) i=0
 | 0=>rfl
 | i+1=>by
   rw [yJ,WD W i,List.getD_eq_getElem?_getD,List.getElem?_replicate];split<;>simp
theorem JE (x y:List Int) (hx : ∀ v∈x,0≤v∧v≤15) (hy : ∀ v∈y,0≤v∧v≤15) (l:List Tok) (hn:l.length≤100000) (hok : ∀ t∈l,yu t) :
 qM x y (zt l)=kL x y l:=by
 have key : ∀ i,i≤l.length→yt (fun j=>((zt (l.take i)).1.getD j 0:Nat)*W1 x j) 286+yt (fun j=>((zt (l.take i)).2.getD j 0:Nat)*W2 y j) 30=kL x y (l.take i):=by
  intro i
  induction i with
  | zero =>
    intro _;rw [List.take_zero,kC];dsimp only;rw [Vt];have e:(List.replicate 286 0).set 256 1=qK (List.replicate 286 0) 256:=rfl;rw [e,kO _ _ (by rw [List.length_replicate]; omega),WD,if_pos (by omega)];show 0+W1 x 256+0=x.getD 256 0;have hB:=Yj ⟨256,by omega⟩;dsimp only at hB;unfold W1;rw [WR hx,hB];omega
  | succ i ih =>
    intro h;have hil:i<l.length:=(by omega);rw [List.take_succ_eq_append_getElem hil,jL,ZQ,← ih (by omega)];have ho:=qV l i (by omega);exact zfg x y _ _ hx hy ho.la ho.lb (hok _ (List.getElem_mem hil))
 have ho:=qV l l.length (Nat.le_refl _);have k:=key l.length (Nat.le_refl _);rw [List.take_length] at ho k;rw [zei x y _ (fun v hv=>by have:=ho.ba v hv; omega) (fun v hv=>by have:=ho.bb v hv; omega),k]
theorem Kg (x y:List Int) (hx : ∀ v∈x,0≤v∧v≤15) (hy : ∀ v∈y,0≤v∧v≤15) (l:List Tok) (hok : ∀ t∈l,yu t) : ∀ i,i≤l.length→0≤kL x y (l.take i)∧kL x y (l.take i)≤15+60*i
 | 0,_=>by
   rw [List.take_zero];show 0≤x.getD 256 0∧x.getD 256 0≤15+60*((0:Nat):Int);have:=WR hx 256;omega
 | i+1,h=>by
   have hil:i<l.length:=(by omega);have ih:=Kg x y hx hy l hok i (by omega);rw [List.take_succ_eq_append_getElem hil,ZQ];have hb:0≤qw x y l[i]∧qw x y l[i]≤60:=by
    unfold qw;have d1:=WR hx l[i].byte;split
    · omega
    · rename_i h0;have hl:=Jl (hok _ (List.getElem_mem hil));have hk:=Jp (hok _ (List.getElem_mem hil)) h0;unfold jU at hl;unfold vJ at hk;rw [if_neg h0] at hl;have d2:=WR hx (257+(yU l[i].long.toNat 29 0).getD 0);have d3:=WR hy ((ky l[i].back.toNat 30 0).getD 0);generalize (yU l[i].long.toNat 29 0).getD 0=r at *;generalize (ky l[i].back.toNat 30 0).getD 0=q at *;have e1:=ZG ⟨r,by omega⟩;have e2:=ZR ⟨q,hk⟩;have b1:=zaR ⟨257+r,hl⟩;have b2:=zax ⟨q,hk⟩;dsimp only at e1 e2 b1 b2;omega
   have e:((i+1:Nat):Int)=(i:Int)+1:=(by omega);omega
end Go.Proofs.YtfkenhihcmmgkaaGreatDoor
namespace Go.Proofs.YtfkenhihcmmgkaaGreatDoor
open Go.RowKit
attribute [local go_sem] Oper.semAt_some
def jl (t:Tok):Nat:=if t.long≤1 then 1 else t.long.toNat
def yw (l:List Tok):Nat:=(l.map jl).sum
theorem Zw (l:List Tok) (t:Tok):yw (l++[t])=yw l+jl t:=by unfold yw; simp
theorem Zd {t:Tok} (h:yu t):jl t≤258:=by unfold jl; unfold yu at h; split<;>omega
theorem Zj : ∀ (l:List Tok),(∀ t∈l,yu t)→yw l≤258*l.length
 | [],_=>by simp [yw]
 | t::l,h=>by
   have ih:=Zj l (fun x hx=>h x (List.mem_cons_of_mem _ hx));have h1:=Zd (h t List.mem_cons_self);unfold yw at *;rw [List.map_cons,List.sum_cons,List.length_cons];omega
theorem zeM (r:List Int) (a:Int) (h : ∀ x∈r,0≤x∧x≤15):(yo r a).1.sym<19∧(yo r a).1.bits≤7:=by
 unfold yo;split
 · exact ⟨show 18<19 by omega,show vA 18≤7 by decide⟩
 · split
   · exact ⟨show 17<19 by omega,show vA 17≤7 by decide⟩
   · split
     · exact ⟨show 16<19 by omega,show vA 16≤7 by decide⟩
     · cases r with
       | nil=>exact ⟨by decide,by decide⟩
       | cons x r=>have:=h x List.mem_cons_self; exact ⟨by show x.toNat<19; omega,Nat.zero_le _⟩
theorem zdp : ∀ (f:Nat) (r:List Int) (a:Int),(∀ x∈r,0≤x∧x≤15) → ∀ s∈ofS f r a,s.sym<19∧s.bits≤7
 | 0,_,_,_,s,hs=>by cases hs
 | f+1,r,a,h,s,hs=>by
   rw [jJ] at hs;split at hs
   · cases hs
   · rcases List.mem_cons.1 hs with rfl | hs
     · exact zeM r a h
     · exact zdp f _ _ (fun x hx=>h x (List.mem_of_mem_drop hx)) s hs
theorem JZ {l:List Nat} {m b:Nat} (h : ∀ x∈l,x≤b) : ∀ x∈l.take m,x≤b:=fun x hx=>h x (List.mem_of_mem_take hx)
theorem MadeO.bd {l:List Tok} {lits backs lens:List Nat} {steps:List StpD} (h:MadeO l lits backs steps lens) (hl:(zt l).1.length=286∧(zt l).2.length=30) :
 257≤lits.length∧lits.length≤286∧1≤backs.length∧backs.length≤30∧(∀ x∈lits,x≤15)∧(∀ x∈backs,x≤15)∧(∀ s∈steps,s.sym<19∧s.bits≤7)∧(∀ x∈lens,x≤7)∧lens.length=19∧steps.length≤316:=by
 obtain ⟨u1,m1,hu1,ht1,e1⟩:=h.a;obtain ⟨u2,m2,hu2,ht2,e2⟩:=h.b;obtain ⟨u3,hu3,e3⟩:=h.c;have i1:(ints (zt l).1).length=286:=by simp [ints,hl.1]
 have i2:(ints (zt l).2).length=30:=by simp [ints,hl.2]
 have b1:=JH i1 hu1 (L:=15) (by omega) (by omega) (by have:=hu1.le; omega);have b2:=JH i2 hu2 (L:=15) (by omega) (by omega) (by have:=hu2.le; omega);have l1:lits.length=m1:=by rw [e1,List.length_take,qU]; exact Nat.min_eq_left ht1.le
 have l2:backs.length=m2:=by rw [e2,List.length_take,qU]; exact Nat.min_eq_left ht2.le
 have x1 : ∀ x∈lits,x≤15:=by rw [e1]; exact JZ b1
 have x2 : ∀ x∈backs,x≤15:=by rw [e2]; exact JZ b2
 have hs19:(zL steps).length=19:=by have:=(qQ steps steps.length (Nat.le_refl _)).1; rwa [List.take_length] at this
 have hf1:=ht1.few;have hf2:=ht2.few;have hle1:=ht1.le;have hle2:=ht2.le;have hsl:steps.length≤lits.length+backs.length:=by rw [h.s]; exact zc0 _ _ _
 refine ⟨by omega,by omega,by omega,by omega,x1,x2,?_,?_,?_,by omega⟩
 · rw [h.s];refine zdp _ _ _ (fun x hx=>?_);obtain ⟨y,hy,rfl⟩:=List.mem_map.1 hx;rcases List.mem_append.1 hy with hy | hy
   · have:=x1 y hy; omega
   · have:=x2 y hy; omega
 · rw [e3];exact JH (by simp [ints,Yg,hs19]) hu3 (by omega) (by omega) (by have:=hu3.le; omega)
 · rw [e3,qU]
theorem StpIn.updF {w w':World} {a:Option Addr} {len:Nat} {l:List StpD} {fp:List Nat} (h:StpIn w a len l) (hU:Upd fp w w') (hf : ∀ b off,a=some ⟨b,off,none⟩→b∉fp):StpIn w' a len l :=
 ⟨h.len,fun i hi=>by
  obtain ⟨b,off,e,c1,c2,c3⟩:=h.cell i hi;have hb:b<w.heap.size:=World.block_lt_of_cell? w _ c1;have hn:=hf b off e;exact ⟨b,off,e,(hU.at hb hn _).trans c1,(hU.at hb hn _).trans c2,(hU.at hb hn _).trans c3⟩⟩
theorem JN {w:World} {e t:TypeId} {size n b:Nat} {v:Value} {xs cs:List Value} (h:Row w e size v n xs) (hB:Blk w b cs t) (ht:t≠e):v.ownBlock≠some b:=by
 rcases h.2 with ⟨rfl,rfl⟩ | ⟨g',cap,cur,rfl,hb,hh,_⟩
 · simp [Value.ownBlock]
 · intro e2;simp [Value.ownBlock] at e2;subst e2;unfold Blk at hB;rw [hB] at hh;simp at hh;exact ht hh.2
theorem zhY:(Tryz.prog.info? 289).map (·.size)=some 3:=by kernel_rfl
def zjE (l:List Tok) (w:World) (e:Ending) (w':World):Prop := ∃ (lits backs lens:List Nat) (steps:List StpD) (t:Nat),MadeO l lits backs steps lens∧ToldO lens t ∧
 e = .returned (.agg #[.int .i64 ((35+8*yw l:Nat):Int),.int .i64 (3+qM (ints (yG 4)) (ints (List.replicate 32 5)) (zt l)),.int .i64 (((3+(14+3*t+szT lens steps):Nat):Int)+qM (ints lits) (ints backs) (zt l))])∧Upd [] w w'
theorem qr {l:List Nat} (h : ∀ x∈l,x≤15) : ∀ v∈ints l,0≤v∧v≤15:=fun v hv=>by
 obtain ⟨y,hy,rfl⟩:=List.mem_map.1 hv;have:=h y hy;omega
theorem Qe (x y:List Nat) (hx : ∀ v∈x,v≤15) (hy : ∀ v∈y,v≤15) (l:List Tok) (hn:l.length≤100000) (hok : ∀ t∈l,yu t):0≤qM (ints x) (ints y) (zt l)∧qM (ints x) (ints y) (zt l)≤6000015:=by
 rw [JE _ _ (qr hx) (qr hy) l hn hok];have:=Kg _ _ (qr hx) (qr hy) l hok l.length (Nat.le_refl _);rw [List.take_length] at this;omega
theorem vB:(∀ x∈yG 4,x≤15)∧(∀ x∈List.replicate 32 5,x≤15)∧(yG 4).length=288:=by decide +kernel
theorem zej (l:List Tok) (a:Option Addr) (n cap:Nat) (w:World) (hI:TokIn w a n l) (hn:n≤100000) (hok : ∀ t∈l,yu t) :
 Calls Tryz.prog 227 #[.slice a n cap] w fun e w'=>zjE l w e w':=by
 have hln:=hI.len;have HUo:=Hi ((Upd.refl [] w).alloc (.cells #[.int .i64 0,.int .i64 0,.int .i64 0] 289));have HBo:=Hi (Blk.new w [.int .i64 0,.int .i64 0,.int .i64 0] 289);have HMA:=Hi (fun w1 (h:Upd [] w w1)=>zh0 l a n cap w1 (hI.pure h) hn hok);have HBF:=Hi (fun w1 (h:Upd [] w w1) (x y:List Int) ax ay nx cx ny cy hX hY h1 h2=>zgr l x y a ax ay n cap nx cx ny cy w1 (hI.pure h) hn hok hX hY h1 h2);have HML:=Hi (by have:=qV l l.length (Nat.le_refl _); rw [List.take_length] at this; exact And.intro this.la this.lb);have HEL:=Hi (fun i=>Zj (l.take i) (fun t h=>hok t (List.mem_of_mem_take h)));have HOK:=Hi hok;have HBB:=Hi (fun x y hx hy=>Qe x y hx hy l (by omega) hok);have HI:=Hi hI;have HLN:=Hi hln;clear hI hok hln;go_enter Tryz.func227,Tryz.ntmps227;go_upto_region 1 with fail
 change Code.wp _ _ _ _ (w.alloc (.cells #[.int .i64 0,.int .i64 0,.int .i64 0] 289));generalize w.alloc (.cells #[.int .i64 0,.int .i64 0,.int .i64 0] 289)=w1 at *;obtain ⟨ob,hob⟩ : ∃ ob,w.heap.size=ob:=⟨_,rfl⟩;rw [hob] at HBo ⊢;have HOB:=Hi hob;clear hob;go_wp2;go_loopg [3,11] 200000 (fun gg s3 s11 wr => ∃ i:Nat,i≤n∧gg=200000-i∧s11 = .int .i64 (i:Nat)∧s3 = .int .i64 (yw (l.take i):Nat)∧Hid (Upd [] w1 wr))
 case atStart=>exact ⟨0,by omega,by omega,rfl,rfl,Hi (Upd.refl _ _)⟩
 case round =>
  obtain ⟨i,hin,rfl,rfl,rfl,HU⟩:=hrel;have hms:yw (l.take i)≤258*i:=Nat.le_trans (HEL.out i) (Nat.mul_le_mul_left _ (List.length_take_le _ _));by_cases hc:i<n
  · have hcz:(i:Int)<(n:Int):=(by omega);have hil:i<l.length:=(by rw [HLN.out]; exact hc);have hw1:IntKind.i64.wrap ((i:Int)+1)=((i+1:Nat):Int):=(by rw [IntWalk.i64_in _ (by omega)]; rfl);obtain ⟨b,off,rfl,⟨hc1,hc2,hc3⟩,r1,r2,r3⟩:=(HI.out.pure (HUo.out.then HU.out)).cell i hil;have HSM:Hid (yw (l.take (i+1))=yw (l.take i)+jl l[i]):=Hi (by rw [List.take_succ_eq_append_getElem hil,Zw]);have htl:=Zd (HOK.out _ (List.getElem_mem hil));have hmx:max 1 l[i].long=(jl l[i]:Int):=(by unfold jl; split<;>omega);generalize l[i]=t at *;generalize jl t=mt at *;obtain ⟨tb,tl,tk⟩:=t;dsimp only at hc1 hc2 hc3 r1 r2 r3 hmx;have HU4:=Hi (HU.out.alloc (.cells #[.int .u8 (tb:Nat),.int .i64 tl,.int .i64 tk] 287));generalize yw (l.take i)=ms at *;have hws:IntKind.i64.wrap ((ms:Int)+(mt:Int))=((ms+mt:Nat):Int):=(by rw [IntWalk.i64_in _ (by omega)]; rfl);clear hil;go_wp2;go_roundg (200000-(i+1))
    · exact ⟨i+1,by omega,by first | rfl | omega,by first | rfl | go_num,by rw [HSM.out]; first | rfl | go_num,HU4⟩
    · omega
  · have hcz : ¬ (i:Int)<(n:Int):=(by omega);obtain rfl:i=n:=(by omega);have htk:l.take i=l:=List.take_of_length_le (by rw [HLN.out]; exact Nat.le_refl _);rw [htk] at hms ⊢;clear htk;have HU1:=Hi (HUo.out.then HU.out);have HMM:=Hi (HMA.out wr HU1.out);clear HMA;(go_wp2_with fail);refine HMM.out.mono ?_;rintro e w3 ⟨g1,c1,g2,c2,g4,v3,lits,backs,lens,steps,rfl,hM,hR1,hR2,hR3,hB4,hU3⟩;obtain ⟨va,vc,rfl⟩:=hR3.form;obtain ⟨m1,m1',m2,m2',x15,y15,hsy,hl7,hl19,hsl⟩:=hM.bd HML.out;have HMO:=Hi hM;have HX15:=Hi x15;have HY15:=Hi y15;have HU3:=Hi (HU1.out.then hU3);have HBo3:=Hi (HBo.out.upd (HU.out.then hU3) (by simp));have hIl:IntsIn w3 (some ⟨g1,0,none⟩) lits.length (ints lits):=IntsIn.row hR1 (fun x hx=>by have:=x15 x hx; omega);have hIb:IntsIn w3 (some ⟨g2,0,none⟩) backs.length (ints backs):=IntsIn.row hR2 (fun x hx=>by have:=y15 x hx; omega);have hIn:IntsIn w3 (some ⟨g4,0,none⟩) 19 (ints lens):=IntsIn.blk hB4 hl19 (fun x hx=>by have:=hl7 x hx; omega);have ng1:g1≠ob:=fun e=>JN hR1 HBo3.out (by decide) (by simp [Value.ownBlock,e]);have ng2:g2≠ob:=fun e=>JN hR2 HBo3.out (by decide) (by simp [Value.ownBlock,e]);have ng3:=JN hR3 HBo3.out (by decide);have ng4:g4≠ob:=fun e=>by
     subst e;have h1:=hB4;have h2:=HBo3.out;unfold Blk at h1 h2;rw [h1] at h2;simp at h2
    have HSZ0:=Hi (fun w9 (h:Upd [ob] w3 w9)=>zhO lens steps (some ⟨g1,0,none⟩) (some ⟨g2,0,none⟩) va (some ⟨g4,0,none⟩) lits.length backs.length steps.length c1 c2 vc 19 w9 (hIn.upd h (fun b off e=>by cases e; simpa using ng4)) ((StpIn.row hR3 rfl).updF h (fun b off e=>by subst e; simp [Value.ownBlock] at ng3; simpa using ng3)) (by omega) (fun j=>by have:=Jj hl7 j; omega) hsy);have HZB:Hid (szT lens steps≤22*316):=Hi (Nat.le_trans (zbX lens (fun j=>by have:=Jj hl7 j; omega) steps (fun s hs=>(hsy s hs).2)) (Nat.mul_le_mul_left _ hsl));have HIL:=Hi hIl;have HIB:=Hi hIb;clear hM x15 y15 hIl hIb hIn hR1 hR2 hR3 hB4 hU3 hsy hl7 hl19 HMM;have hP4:=Blk.new w3 [.slice (some ⟨g1,0,none⟩) lits.length c1,.slice (some ⟨g2,0,none⟩) backs.length c2,.slice va steps.length vc,.slice (some ⟨g4,0,none⟩) 19 19] 313;have hUp:=(Upd.refl [] w3).alloc (.cells #[.slice (some ⟨g1,0,none⟩) lits.length c1,.slice (some ⟨g2,0,none⟩) backs.length c2,.slice va steps.length vc,.slice (some ⟨g4,0,none⟩) 19 19] 313);(go_upto_region 8 with fail);change Code.wp _ _ _ _ (w3.alloc (.cells #[.slice (some ⟨g1,0,none⟩) lits.length c1,.slice (some ⟨g2,0,none⟩) backs.length c2,.slice va steps.length vc,.slice (some ⟨g4,0,none⟩) 19 19] 313));generalize w3.alloc (.cells #[.slice (some ⟨g1,0,none⟩) lits.length c1,.slice (some ⟨g2,0,none⟩) backs.length c2,.slice va steps.length vc,.slice (some ⟨g4,0,none⟩) 19 19] 313)=w4 at *;have hpo:ob<w3.heap.size:=HBo3.out.lt;generalize w3.heap.size=pb at *;have HP4:=Hi hP4;have HUp:=Hi hUp;clear hP4 hUp;(go_wp2_with fail);refine (QE _).mono ?_;rintro e w5 ⟨f1,d1,f2,rfl,hF1,hF2,hU5,hf1,hf2⟩;have hIf1:IntsIn w5 (some ⟨f1,0,none⟩) 288 (ints (yG 4)):=IntsIn.row hF1 (fun x hx=>by have:=vB.1 x hx; omega);have hIf2:IntsIn w5 (some ⟨f2,0,none⟩) 32 (ints (List.replicate 32 5)):=IntsIn.row hF2 (fun x hx=>by have:=vB.2.1 x hx; omega);have HP5:=Hi (HP4.out.upd hU5 (by simp));have hBo5:=HBo3.out.upd (HUp.out.then hU5) (by simp);have hfo:f1≠ob∧f2≠ob:=(by have:=HP4.out.lt; constructor<;>omega);have HU35:=Hi (HUp.out.then hU5);clear hF1 hF2 hU5 hf1 hf2;have hel:yw l≤25800000:=(by omega);obtain ⟨N,hN⟩ : ∃ N,yw l=N:=⟨_,rfl⟩;rw [hN] at hel ⊢;have HNE:=Hi hN;have hBF:=HBB.out (yG 4) (List.replicate 32 5) vB.1 vB.2.1;obtain ⟨BF,hBFe⟩ : ∃ B,qM (ints (yG 4)) (ints (List.replicate 32 5)) (zt l)=B:=⟨_,rfl⟩;rw [hBFe] at hBF;have HBFE:=Hi hBFe;have hBV:=HBB.out lits backs HX15.out HY15.out;obtain ⟨BV,hBVe⟩ : ∃ B,qM (ints lits) (ints backs) (zt l)=B:=⟨_,rfl⟩;rw [hBVe] at hBV;have HBVE:=Hi hBVe;have o0:=hBo5.cell 0 rfl;have of0:=hBo5.frz 0;have hUS5:Upd [ob] w5 (w5.setCell ⟨ob,0,none⟩ (.int .i64 (35+8*(N:Int)))):=(Upd.refl [ob] w5).setCell (.inl (by simp)) _;have hBs5:=hBo5.set 0 (.int .i64 (35+8*(N:Int)));simp only [List.set_cons_zero,List.set_cons_succ] at hBs5;have hU5a:Upd [] w (w5.setCell ⟨ob,0,none⟩ (.int .i64 (35+8*(N:Int)))):=((HU3.out.then HU35.out).trans hUS5 (fun k hk => .inr (by have:=HOB.out; simp at hk; omega)));have HBC:Hid (Calls Tryz.prog 263 #[.slice a i cap,.slice (some ⟨f1,0,none⟩) 288 d1,.slice (some ⟨f2,0,none⟩) 32 32] (w5.setCell ⟨ob,0,none⟩ (.int .i64 (35+8*(N:Int)))) fun e w'=>e = .returned (.int .i64 BF)∧Upd [] (w5.setCell ⟨ob,0,none⟩ (.int .i64 (35+8*(N:Int)))) w') :=
     Hi ((HBF.out _ hU5a (ints (yG 4)) (ints (List.replicate 32 5)) _ _ 288 d1 32 32 (hIf1.upd hUS5 (fun b off e=>by cases e; simpa using hfo.1)) (hIf2.upd hUS5 (fun b off e=>by cases e; simpa using hfo.2)) (by omega) (by omega)).mono (fun e w' ⟨h1,h2⟩=>⟨by rw [h1,hBFe],h2⟩))
    have HUW0:=Hi (HU35.out.mono (fp':=[ob]) (by simp) |>.then hUS5);have HU5a:=Hi hU5a;have HBs5:=Hi hBs5;have HP5s:=Hi (HP5.out.upd hUS5 (by have:=hfo; simp; omega));clear hIf1 hIf2 hBo5 hUS5 hBs5 hU5a hN hBFe hBVe HP4 HUp HP5 HBo3 HU3 hms;(go_wp2_with fail);refine HBC.out.mono ?_;rintro e w6 ⟨rfl,hU6⟩;have hb6:=HBs5.out.upd hU6 (by simp);have o1:=hb6.cell 1 rfl;have of1:=hb6.frz 1;have hUS6:Upd [ob] w6 (w6.setCell ⟨ob,1,none⟩ (.int .i64 (3+BF))):=(Upd.refl [ob] w6).setCell (.inl (by simp)) _;have hBs6:=hb6.set 1 (.int .i64 (3+BF));simp only [List.set_cons_zero,List.set_cons_succ] at hBs6;have HBO1:=Hi hBs6;have HUW3:=Hi ((HUW0.out.trans (fp':=[]) hU6 (by simp)).then hUS6);have HUWw:=Hi ((HU5a.out.then hU6).trans hUS6 (fun k hk => .inr (by have:=HOB.out; simp at hk; omega)));have HPW:=Hi ((HP5s.out.upd hU6 (by simp)).upd hUS6 (by simp; omega));clear hb6 hUS6 hBs6 hU6 HBC HUW0 HU5a HBs5 HP5s;(go_upto_region 11 with fail);change Code.wp _ _ _ _ (w6.setCell ⟨ob,1,none⟩ (.int .i64 (3+BF)));generalize w6.setCell ⟨ob,1,none⟩ (.int .i64 (3+BF))=W at *;clear o0 of0 o1 of1;have HSZ:=Hi (fun w9 (h:Upd [] W w9)=>HSZ0.out w9 (HUW3.out.trans h (by simp)));have HBO:Hid (∀ w9,Upd [] W w9→Calls Tryz.prog 263 #[.slice a i cap,.slice (some ⟨g1,0,none⟩) lits.length c1,.slice (some ⟨g2,0,none⟩) backs.length c2] w9 fun e w'=>e = .returned (.int .i64 BV)∧Upd [] w9 w') :=
     Hi (fun w9 h=>(HBF.out _ (HUWw.out.then h) (ints lits) (ints backs) _ _ _ c1 _ c2 (HIL.out.upd (HUW3.out.trans (fp':=[]) h (by simp)) (fun b off e=>by cases e; simpa using ng1)) (HIB.out.upd (HUW3.out.trans (fp':=[]) h (by simp)) (fun b off e=>by cases e; simpa using ng2)) (by omega) (by omega)).mono (fun e w' ⟨h1,h2⟩=>⟨by rw [h1,HBVE.out],h2⟩))
    have k0:=HPW.out.cell 0 rfl;have k1:=HPW.out.cell 1 rfl;have k2:=HPW.out.cell 2 rfl;have k3:=HPW.out.cell 3 rfl;clear HSZ0 HBF;refine wp_region_held_drew (S:=fun w'=>HC [ob] W [(⟨pb,0,none⟩,.slice (some ⟨g1,0,none⟩) lits.length c1),(⟨pb,1,none⟩,.slice (some ⟨g2,0,none⟩) backs.length c2),(⟨pb,2,none⟩,.slice va steps.length vc),(⟨pb,3,none⟩,.slice (some ⟨g4,0,none⟩) 19 19)] w') (by kernel_rfl) (HC.of (fp:=[ob]) (W:=W) (fs:=[(⟨pb,0,none⟩,.slice (some ⟨g1,0,none⟩) lits.length c1),(⟨pb,1,none⟩,.slice (some ⟨g2,0,none⟩) backs.length c2),(⟨pb,2,none⟩,.slice va steps.length vc),(⟨pb,3,none⟩,.slice (some ⟨g4,0,none⟩) 19 19)]) ⟨k0,k1,k2,k3,trivial⟩).drew (fun hHeld=>hdN ?_);refine hdT 0 (some 37) ?_ (hy:=by intro w hSw; have q0:=hSw.cells.1; have q1:=hSw.cells.2.1; have q2:=hSw.cells.2.2.1; have q3:=hSw.cells.2.2.2.1; dsimp only at q0 q1 q2 q3; clear hSw; go_simp; try with_reducible rfl);refine hdT 3 (some 40) ?_; refine hdT 4 (some 41) ?_;refine hdT 5 (some 42) ?_ (hy:=by intro w hSw; have q0:=hSw.cells.1; dsimp only at q0; clear hSw; go_simp; try with_reducible rfl);refine hdT 6 (some 43) ?_;refine hdT 7 (some 44) ?_ (hy:=by intro w hSw; have q0:=hSw.cells.2.1; dsimp only at q0; clear hSw; go_simp; try with_reducible rfl);refine hdO 1 (fun K hK=>?_);go_simp;refine (HSZ.out _ (Upd.drew (Upd.refl [] W))).mono ?_;rintro e z1 ⟨t,rfl,ht,hU⟩;have HT:=Hi ht;have HUz1:=Hi ((Upd.drew (Upd.refl [] W)).then hU);have hszb:14+3*t+szT lens steps≤100000:=(by have:=ht.hi; have:=HZB.out; omega);obtain ⟨SZ,hSZ⟩ : ∃ SZ,14+3*t+szT lens steps=SZ:=⟨_,rfl⟩;rw [hSZ] at hszb ⊢;have HSZE:=Hi hSZ;obtain ⟨S3,hS3⟩ : ∃ S3,3+SZ=S3:=⟨_,rfl⟩;have hws:IntKind.i64.wrap (3+(SZ:Int))=(S3:Int):=(by rw [IntWalk.i64_in _ (by omega)]; omega);have hs3b:S3≤100003:=(by omega);have HS3:=Hi hS3;clear ht hSZ hS3;go_wp2;refine hK.out _ _ (hHeld.then hU) (fun hHeld=>hdN ?_);clear hK K;clear hU;refine hdT 2 (some 39) ?_ (hy:=by intro w hSw; clear hSw; go_simp; try with_reducible rfl) (v := .int .i64 (S3:Int));refine hdO 8 (fun K hK=>?_);go_simp;refine (HBO.out _ HUz1.out).mono ?_;rintro e z2 ⟨rfl,hU⟩;have hUz2:=HUz1.out.then hU;have hb2:=HBO1.out.upd hUz2 (by simp);have o2:=hb2.cell 2 rfl;have f2:=hb2.frz 2;have HB2:=Hi hb2;have HUz2:=Hi hUz2;have hwt:IntKind.i64.wrap ((S3:Int)+BV)=(S3:Int)+BV:=IntWalk.i64_in _ (by omega);clear hUz2 hb2;go_wp2;refine hK.out _ _ (hHeld.then hU) (fun hHeld=>hdN ?_);clear hK K;clear hU;refine hdT 9 (some 46) ?_ (hy:=by intro w hSw; clear hSw; go_simp; try with_reducible rfl) (v := .int .i64 ((S3:Int)+BV));refine hdT 10 (some 47) ?_;refine hdO 11 (fun K hK=>?_);go_simp;skip;go_wp2;refine hK.out _ _ (hHeld.set _ _ (.inl (by simp)) (by simp; omega)) (fun hHeld=>hdN ?_);clear hK K;refine wpAnyH_done (by kernel_rfl) ?_ 0;clear hHeld;have hB9:=HB2.out.set 2 (.int .i64 ((S3:Int)+BV));simp only [List.set_cons_zero,List.set_cons_succ] at hB9;have HU9:=Hi ((HUWw.out.then HUz2.out).setCell (p:=⟨ob,2,none⟩) (.inr (by have:=HOB.out; show w.heap.size≤ob; omega)) (.int .i64 ((S3:Int)+BV)));clear o2 f2 k0 k1 k2 k3 hws hwt;go_wp2_with (first
     | (refine zx rfl 289 _ rfl ob rfl 289 _ hB9 _ Tryz.underlying289 rfl (by rw [zhY]; rfl) ?_)
     | (refine zv rfl 289 _ _ rfl ob rfl _ rfl 289 _ hB9 (by rw [zhY]; rfl) rfl (by simp [Value.oneCell']) ?_; intro w14 hB14 hU14))
    refine bodyPost_ret (results_cell_row rfl _ _ _ _ _ _ _ rfl hB14 Tryz.underlying289 rfl (by rw [zhY]; rfl)) rfl ?_;refine ⟨lits,backs,lens,steps,t,HMO.out,HT.out,?_,HU9.out.trans hU14 (fun k hk => .inr (by have:=HOB.out; simp at hk; omega))⟩;rw [HBFE.out,HBVE.out,HSZE.out,HNE.out,HS3.out,show ((35+8*N:Nat):Int)=35+8*(N:Int) by omega]
end Go.Proofs.YtfkenhihcmmgkaaGreatDoor
