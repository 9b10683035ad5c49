/- Package block: Body: its walk. -/
import Derived.Test.YtfkcdnaghndgfaaGreatDoorQBJ
import Derived.Test.YtfkcdnaghndgfaaGreatDoorQBM
set_option linter.unusedVariables false
set_option linter.unusedSimpArgs false
set_option linter.unusedSectionVars false
namespace Go.Proofs.YtfkcdnaghndgfaaGreatDoor
open Go.RowKit
def ym (f:Nat→Int):Nat→Int
 | 0=>0
 | i+1=>ym f i+f i
theorem yD (f:Nat→Int) (i:Nat):ym f (i+1)=ym f i+f i:=rfl
theorem VP (f:Nat→Int) (M:Int) (hM:0≤M) : ∀ i,(∀ j,j<i→0≤f j∧f j≤M)→0≤ym f i∧ym f i≤i*M
 | 0,_=>by simp [ym]
 | i+1,h=>by
   have h1:=VP f M hM i (fun j hj=>h j (by omega))
   have h2:=h i (by omega)
   rw [yD]
   have e:((i+1:Nat):Int)*M=i*M+M:=by rw [Int.natCast_add,Int.add_mul]; simp
   rw [e]
   omega
theorem zaX : ∀ j:Fin 286,yF ((j.val:Nat):Int)≤13 ∧ -1≤yF ((j.val:Nat):Int):=by decide +kernel
theorem WU : ∀ j:Fin 30,xI ((j.val:Nat):Int)≤13∧0≤xI ((j.val:Nat):Int):=by decide +kernel
def jt (A:List Nat) (j:Nat):Int:=(A.getD j 0:Nat)*max 0 (yF ((j:Nat):Int))
def kv (B:List Nat) (j:Nat):Int:=(B.getD j 0:Nat)*xI ((j:Nat):Int)
theorem ke {A:List Nat} {M:Nat} (h : ∀ x∈A,x≤M) (j:Nat):A.getD j 0≤M:=by
 rw [List.getD_eq_getElem?_getD]
 cases h2:A[j]? with
 | none=>simp
 | some y=>exact h y (List.mem_of_getElem? h2)
theorem zhh {A:List Nat} (h : ∀ x∈A,x≤100001) (j:Nat) (hj:j<286):0≤jt A j∧jt A j≤1300013:=by
 have h1:=ke h j
 have h2:=zaX ⟨j,hj⟩
 dsimp only at h2
 unfold jt
 generalize A.getD j 0=x at *
 have h3:0≤max 0 (yF (j:Nat))∧max 0 (yF (j:Nat))≤13:=by omega
 generalize max 0 (yF (j:Nat))=m at *
 constructor
 · exact Int.mul_nonneg (by omega) h3.1
 · have:=Int.mul_le_mul (show (x:Int)≤100001 by omega) h3.2 h3.1 (by omega)
   omega
theorem zhr {B:List Nat} (h : ∀ x∈B,x≤100001) (j:Nat) (hj:j<30):0≤kv B j∧kv B j≤1300013:=by
 have h1:=ke h j
 have h2:=WU ⟨j,hj⟩
 dsimp only at h2
 unfold kv
 generalize B.getD j 0=x at *
 generalize xI (j:Nat)=m at *
 constructor
 · exact Int.mul_nonneg (by omega) h2.2
 · have:=Int.mul_le_mul (show (x:Int)≤100001 by omega) h2.1 h2.2 (by omega)
   omega
def yT (x y:List Int) (p:List Nat×List Nat):Int :=
 yc x (ints p.1) (min (min x.length 286) 300)+yc y (ints p.2) (min (min y.length 30) 300)+ym (jt p.1) 286+ym (kv p.2) 30
def zim (x y:List Int) (l:List Tok) (w:World) (e:Ending) (w':World):Prop:=e = .returned (.int .i64 (yT x y (zh l)))∧Upd [] w w'
set_option maxRecDepth 100000 in
set_option maxHeartbeats 6400000 in
theorem zfe (l:List Tok) (x y:List Int) (a ax ay:Option Addr) (n cap nx cx ny cy:Nat) (w:World) (hI:TokIn w a n l) (hn:n≤100000) (hok : ∀ t∈l,zo t)
 (hX:IntsIn w ax nx x) (hY:IntsIn w ay ny y) (hnx:nx≤9223372036854775807) (hny:ny≤9223372036854775807) :
 Calls Tryz.prog 129 #[.slice a n cap,.slice ax nx cx,.slice ay ny cy] w fun e w'=>zim x y l w e w':=by
 have HMA:=Lib.hid (zah l a n cap w hI hn hok)
 have HMO:=Lib.hid (by have:=xt l l.length (Nat.le_refl _); rw [List.take_length] at this; exact this)
 have HLN:=Lib.hid hI.len
 have HX:=Lib.hid hX
 have HY:=Lib.hid hY
 have hlx:=hX.len
 have hly:=hY.len
 subst hlx hly
 clear hI hok hX hY
 unfold zim
 obtain ⟨R,hR⟩ : ∃ R,yT x y (zh l)=R:=⟨_,rfl⟩
 rw [hR]
 unfold yT at hR
 have HRR:=Lib.hid hR
 clear hR
 unfold zgb at HMA
 generalize zh l=p at *
 obtain ⟨pa,pb⟩:=p
 dsimp only at HMA HRR
 go_enter Tryz.func129,Tryz.ntmps129
 go_wp2_with fail
 refine HMA.out.mono ?_
 rintro e w1 ⟨oa,ob,rfl,hA,hB,_,_,_,hU1⟩
 have hla:pa.length=286:=HMO.out.la
 have hlb:pb.length=30:=HMO.out.lb
 have hba : ∀ v∈pa,v≤100001:=fun v hv=>by have:=HMO.out.ba v hv; have:=HLN.out; omega
 have hbb : ∀ v∈pb,v≤100001:=fun v hv=>by have:=HMO.out.bb v hv; have:=HLN.out; omega
 have hIA:IntsIn w1 (some ⟨oa,0,none⟩) (ints pa).length (ints pa):=IntsIn.blk hA (by simp [ints]) (fun v hv=>by have:=hba v hv; omega)
 have hIB:IntsIn w1 (some ⟨ob,0,none⟩) (ints pb).length (ints pb):=IntsIn.blk hB (by simp [ints]) (fun v hv=>by have:=hbb v hv; omega)
 have hpa:(ints pa).length=286:=by simp [ints,hla]
 have hpb:(ints pb).length=30:=by simp [ints,hlb]
 have HC1:=Lib.hid (Vj ax (some ⟨oa,0,none⟩) cx 286 x (ints pa) w1 (HX.out.pure hU1) hIA hnx (by omega))
 have HC2:=Lib.hid (fun w2 (h:Upd [] w1 w2)=>Vj ay (some ⟨ob,0,none⟩) cy 30 y (ints pb) w2 ((HY.out.pure hU1).pure h) (hIB.pure h) hny (by omega))
 have hb1:=QY x (ints pa) (min (min x.length 286) 300)
 have hb2:=QY y (ints pb) (min (min y.length 30) 300)
 rw [hpa] at HC1
 rw [hpb] at HC2
 have hk1:((min (min x.length 286) 300:Nat):Int)≤300:=by omega
 have hk2:((min (min y.length 30) 300:Nat):Int)≤300:=by omega
 have hc1:0≤yc x (ints pa) (min (min x.length 286) 300)∧yc x (ints pa) (min (min x.length 286) 300)≤4947802324992000:=by omega
 have hc2:0≤yc y (ints pb) (min (min y.length 30) 300)∧yc y (ints pb) (min (min y.length 30) 300)≤4947802324992000:=by omega
 generalize yc x (ints pa) (min (min x.length 286) 300)=C1 at *
 generalize yc y (ints pb) (min (min y.length 30) 300)=C2 at *
 have hw0:IntKind.i64.wrap (C1+C2)=C1+C2:=IntWalk.i64_in _ (by omega)
 have HA:=Lib.hid hA
 have HB:=Lib.hid hB
 have HU1:=Lib.hid hU1
 have HLA:=Lib.hid hla
 have HLB:=Lib.hid hlb
 have HBA:=Lib.hid hba
 have HBB:=Lib.hid hbb
 clear hA hB hU1 hla hlb hba hbb hIA hIB hpa hpb hb1 hb2 hk1 hk2 HMA
 go_wp2_with fail
 refine HC1.out.mono ?_
 rintro e w2 ⟨rfl,q2,rfl⟩
 go_wp2_with fail
 refine (HC2.out _ ((Upd.refl [] w1).drewN q2)).mono ?_
 rintro e w3 ⟨rfl,q3,rfl⟩
 have HA3:=Lib.hid (HA.out.drewN (q2+q3))
 have HB3:=Lib.hid (HB.out.drewN (q2+q3))
 have HU3:=Lib.hid (HU1.out.drewN (q2+q3))
 clear HC1 HC2 HA HB HU1
 go_wp2
 generalize w1.drewN (q2+q3)=w4 at *
 have hCb:0≤C1+C2∧C1+C2≤9895604649984000:=by omega
 obtain ⟨C,hC⟩ : ∃ C,C1+C2=C:=⟨_,rfl⟩
 rw [hC] at hCb ⊢
 clear hw0 hc1 hc2
 have HC:=Lib.hid hC
 clear hC
 have HLS:Hid (∀ j,j<286→0≤jt pa j∧jt pa j≤1300013):=Lib.hid (fun j hj=>zhh HBA.out j hj)
 have HBS:Hid (∀ j,j<30→0≤kv pb j∧kv pb j≤1300013):=Lib.hid (fun j hj=>zhr HBB.out j hj)
 go_loopg [9,28] 1000 (fun gg s9 s28 wr => ∃ i:Nat,i≤286∧gg=1000-i∧s28 = .int .i64 (i:Nat)∧s9 = .int .i64 (C+ym (jt pa) i)∧Hid (Upd [] w4 wr))
 case atStart=>exact ⟨0,by omega,by omega,rfl,by rw [show ym (jt pa) 0=0 from rfl,Int.add_zero],Lib.hid (Upd.refl _ _)⟩
 case round =>
  obtain ⟨i,hi,rfl,rfl,rfl,HU⟩:=hrel
  have hsb:=VP (jt pa) 1300013 (by omega) i (fun j hj=>HLS.out j (by omega))
  have hsb2:ym (jt pa) i≤371803718:=by omega
  have hsb1:=hsb.1
  clear hsb
  by_cases hc:i<286
  · have hcz:(i:Int)<286:=by omega
    have hw1:IntKind.i64.wrap ((i:Int)+1)=((i+1:Nat):Int):=by rw [IntWalk.i64_in _ (by omega)]; rfl
    have hgt:pa[i]? =some (pa.getD i 0):=by rw [List.getD_eq_getElem?_getD,List.getElem?_eq_getElem (by rw [HLA.out]; exact hc)]; rfl
    have ca:=(HA3.out.upd HU.out (by simp)).cell i (zL pa i _ hgt)
    have HLB2:=Lib.hid (fun w'=>Qw i w' (by omega))
    have hx:=HLS.out i hc
    have HLX:Hid (jt pa i=(pa.getD i 0:Nat)*max 0 (yF ((i:Nat):Int))):=Lib.hid rfl
    have HSU:Hid (ym (jt pa) (i+1)=ym (jt pa) i+jt pa i):=Lib.hid rfl
    have hxm:((pa.getD i 0:Nat):Int)*max 0 (yF ((i:Nat):Int))=jt pa i:=rfl
    generalize jt pa i=X at *
    generalize ym (jt pa) i=S at *
    generalize yF ((i:Nat):Int)=B at *
    generalize pa.getD i 0=y at *
    have hwm:IntKind.i64.wrap ((y:Int)*max 0 B)=X:=by rw [hxm]; exact IntWalk.i64_in _ (by omega)
    have hws:IntKind.i64.wrap (C+S+X)=C+S+X:=IntWalk.i64_in _ (by omega)
    clear hxm hgt
    go_wp2_with fail
    refine (HLB2.out _).mono ?_
    rintro e w5 ⟨rfl,hU5⟩
    have HU5:=Lib.hid (HU.out.then hU5)
    clear hU5 HLB2
    go_wp2
    go_roundg (1000-(i+1))
    · exact ⟨i+1,by omega,by first | rfl | omega,by first | rfl | go_num,by rw [HSU.out]; congr 1; omega,HU5⟩
    · omega
  · have hcz : ¬ (i:Int)<286:=by omega
    obtain rfl:i=286:=by omega
    have HS1:Hid (ym (jt pa) 286=ym (jt pa) 286):=Lib.hid rfl
    obtain ⟨S1,hS1⟩ : ∃ S1,ym (jt pa) 286=S1:=⟨_,rfl⟩
    rw [hS1] at hsb1 hsb2 ⊢
    have HSE:=Lib.hid hS1
    obtain ⟨D,hD⟩ : ∃ D,C+S1=D:=⟨_,rfl⟩
    have hDb:0≤D∧D≤9895604649984000+371803718:=by omega
    have hDb2:D≤9895605021787718:=by omega
    rw [hD]
    have HD:=Lib.hid hD
    clear hS1 hD hDb HS1
    have hD0:0≤D:=by have:=HD.out; omega
    go_wp2
    go_loopg [9,43] 1000 (fun gg s9 s43 wq => ∃ k:Nat,k≤30∧gg=1000-k∧s43 = .int .i64 (k:Nat)∧s9 = .int .i64 (D+ym (kv pb) k)∧Hid (Upd [] w4 wq))
    case atStart=>exact ⟨0,by omega,by omega,rfl,by rw [show ym (kv pb) 0=0 from rfl,Int.add_zero],HU⟩
    case round =>
     obtain ⟨k,hk,rfl,rfl,rfl,HU⟩:=hrel
     have hsb:=VP (kv pb) 1300013 (by omega) k (fun j hj=>HBS.out j (by omega))
     have hsb3:ym (kv pb) k≤39000390:=by omega
     have hsb4:=hsb.1
     clear hsb
     by_cases hkc:k<30
     · have hkz:(k:Int)<30:=by omega
       have hw1:IntKind.i64.wrap ((k:Int)+1)=((k+1:Nat):Int):=by rw [IntWalk.i64_in _ (by omega)]; rfl
       have hgt:pb[k]? =some (pb.getD k 0):=by rw [List.getD_eq_getElem?_getD,List.getElem?_eq_getElem (by rw [HLB.out]; exact hkc)]; rfl
       have ca:=(HB3.out.upd HU.out (by simp)).cell k (zL pb k _ hgt)
       have HLB2:=Lib.hid (fun w'=>Qa ((k:Nat):Int) w')
       have hx:=HBS.out k hkc
       have HSU:Hid (ym (kv pb) (k+1)=ym (kv pb) k+kv pb k):=Lib.hid rfl
       have hxm:((pb.getD k 0:Nat):Int)*xI ((k:Nat):Int)=kv pb k:=rfl
       generalize kv pb k=X at *
       generalize ym (kv pb) k=S at *
       generalize xI ((k:Nat):Int)=B at *
       generalize pb.getD k 0=y at *
       have hwm:IntKind.i64.wrap ((y:Int)*B)=X:=by rw [hxm]; exact IntWalk.i64_in _ (by omega)
       have hws:IntKind.i64.wrap (D+S+X)=D+S+X:=IntWalk.i64_in _ (by omega)
       clear hxm hgt
       go_wp2_with fail
       refine (HLB2.out _).mono ?_
       rintro e w5 ⟨rfl,hU5⟩
       have HU5:=Lib.hid (HU.out.then hU5)
       clear hU5 HLB2
       go_wp2
       go_roundg (1000-(k+1))
       · exact ⟨k+1,by omega,by first | rfl | omega,by first | rfl | go_num,by rw [HSU.out]; congr 1; omega,HU5⟩
       · omega
     · have hkz : ¬ (k:Int)<30:=by omega
       obtain rfl:k=30:=by omega
       have HF:Hid (D+ym (kv pb) 30=R):=Lib.hid (by rw [← HRR.out,HC.out,HSE.out,HD.out])
       generalize ym (kv pb) 30=S3 at *
       generalize ym (jt pa) 286=S4 at *
       go_wp2
       go_ret
       exact ⟨by rw [← HF.out]; rfl,HU3.out.then HU.out⟩
end Go.Proofs.YtfkcdnaghndgfaaGreatDoor
namespace Go.Proofs.YtfkcdnaghndgfaaGreatDoor
theorem Zx (l u:List Int) : ∀ i,yc l u i=ym (fun j=>max 0 (min (l.getD j 0) 15)*jf (u.getD j 0)) i
 | 0=>rfl
 | i+1=>by rw [yD,yc,Zx l u i]
theorem QE (f g:Nat→Int) : ∀ i,ym f i+ym g i=ym (fun j=>f j+g j) i
 | 0=>rfl
 | i+1=>by rw [yD,yD,yD,← QE f g i]; omega
theorem JT {f g:Nat→Int} : ∀ i,(∀ j,j<i→f j=g j)→ym f i=ym g i
 | 0,_=>rfl
 | i+1,h=>by rw [yD,yD,JT i (fun j hj=>h j (by omega)),h i (by omega)]
theorem qv (a:List Nat) (c j:Nat) (hc:c<a.length):(xr a c).getD j 0=a.getD j 0+if j=c then 1 else 0:=by
 unfold xr
 by_cases h:j=c
 · subst h
   rw [if_pos rfl,List.getD_eq_getElem?_getD,List.getElem?_set_self hc]
   rfl
 · rw [if_neg h,List.getD_eq_getElem?_getD,List.getElem?_set_ne (Ne.symm h),List.getD_eq_getElem?_getD]
   rfl
theorem kN (a:List Nat) (c:Nat) (hc:c<a.length) (W:Nat→Int) : ∀ i,ym (fun j=>((xr a c).getD j 0:Nat)*W j) i=ym (fun j=>(a.getD j 0:Nat)*W j) i+if c<i then W c else 0
 | 0=>by simp [ym]
 | i+1=>by
   rw [yD,yD,kN a c hc W i,qv a c i hc]
   by_cases h:i=c
   · subst h
     rw [if_pos rfl,if_neg (by omega),if_pos (by omega)]
     rw [Int.natCast_add,Int.add_mul]
     simp
     omega
   · rw [if_neg h]
     by_cases h2:c<i
     · rw [if_pos h2,if_pos (by omega)]
       simp
       omega
     · rw [if_neg h2,if_neg (by omega)]
       simp
def W1 (x:List Int) (j:Nat):Int:=max 0 (min (x.getD j 0) 15)+max 0 (yF ((j:Nat):Int))
def W2 (y:List Int) (j:Nat):Int:=max 0 (min (y.getD j 0) 15)+xI ((j:Nat):Int)
theorem ye (a:List Nat) (j:Nat):(ints a).getD j 0=((a.getD j 0:Nat):Int):=by
 unfold ints
 rw [List.getD_eq_getElem?_getD,List.getElem?_map,List.getD_eq_getElem?_getD]
 cases a[j]?<;>rfl
theorem Wy (f:Nat→Int) (n:Nat) (hf : ∀ j,n≤j→f j=0) : ∀ m,ym f (min n m)=ym f m
 | 0=>by rw [Nat.min_zero]
 | m+1=>by
   rw [yD,← Wy f n hf m]
   rcases Nat.lt_or_ge m n with h | h
   · rw [Nat.min_eq_right (show m+1≤n from h),Nat.min_eq_right (show m≤n by omega),yD]
   · rw [hf m h,Nat.min_eq_left (show n≤m+1 by omega),Nat.min_eq_left h,Int.add_zero]
theorem zc0 (x u:List Int) (m:Nat) (hm:m≤300):yc x u (min (min x.length m) 300)=ym (fun j=>max 0 (min (x.getD j 0) 15)*jf (u.getD j 0)) m:=by
 rw [Zx,Nat.min_eq_left (show min x.length m≤300 by omega)]
 refine Wy _ _ (fun j hj=>?_) m
 rw [List.getD_eq_getElem?_getD,List.getElem?_eq_none hj]
 show max 0 (min (0:Int) 15)*_=0
 rw [show max 0 (min (0:Int) 15)=0 from rfl,Int.zero_mul]
theorem zeo (x y:List Int) (p:List Nat×List Nat) (hb : ∀ v∈p.1,v≤100001) (hb2 : ∀ v∈p.2,v≤100001) :
 yT x y p=ym (fun j=>(p.1.getD j 0:Nat)*W1 x j) 286+ym (fun j=>(p.2.getD j 0:Nat)*W2 y j) 30:=by
 have hn : ∀ (a:List Nat) (j:Nat),(∀ v∈a,v≤100001)→jf ((ints a).getD j 0)=((a.getD j 0:Nat):Int):=fun a j h=>by
  rw [ye]
  have:=ke h j
  unfold jf
  omega
 unfold yT
 rw [zc0 _ _ 286 (by omega),zc0 _ _ 30 (by omega)]
 have e1:ym (fun j=>max 0 (min (x.getD j 0) 15)*jf ((ints p.1).getD j 0)) 286+ym (jt p.1) 286=ym (fun j=>(p.1.getD j 0:Nat)*W1 x j) 286:=by
  rw [QE]
  refine JT _ (fun j _=>?_)
  rw [hn p.1 j hb]
  unfold jt W1
  rw [Int.mul_add,Int.mul_comm (max 0 (min (x.getD j 0) 15))]
 have e2:ym (fun j=>max 0 (min (y.getD j 0) 15)*jf ((ints p.2).getD j 0)) 30+ym (kv p.2) 30=ym (fun j=>(p.2.getD j 0:Nat)*W2 y j) 30:=by
  rw [QE]
  refine JT _ (fun j _=>?_)
  rw [hn p.2 j hb2]
  unfold kv W2
  rw [Int.mul_add,Int.mul_comm (max 0 (min (y.getD j 0) 15))]
 rw [← e1,← e2]
 omega
def qi (x y:List Int) (t:Tok):Int :=
 if t.long=0 then x.getD t.byte 0
 else x.getD (257+(ya t.long.toNat 29 0).getD 0) 0+(qq.getD ((ya t.long.toNat 29 0).getD 0) 0:Nat)+y.getD ((qb t.back.toNat 30 0).getD 0) 0+(dBt ((qb t.back.toNat 30 0).getD 0):Nat)
def kL (x y:List Int) (l:List Tok):Int:=l.foldl (fun n t=>n+qi x y t) (x.getD 256 0)
theorem Zw (x y:List Int) (l:List Tok) (t:Tok):kL x y (l++[t])=kL x y l+qi x y t:=by unfold kL; rw [List.foldl_append]; rfl
theorem Xg : ∀ c:Fin 257,yF ((c.val:Nat):Int) = -1:=by decide +kernel
theorem Zo : ∀ c:Fin 29,yF ((257+c.val:Nat):Int)=((qq.getD c.val 0:Nat):Int):=by decide +kernel
theorem ZE : ∀ c:Fin 30,xI ((c.val:Nat):Int)=((dBt c.val:Nat):Int):=by decide +kernel
theorem WC {x:List Int} (h : ∀ v∈x,0≤v∧v≤15) (j:Nat):max 0 (min (x.getD j 0) 15)=x.getD j 0:=by
 rw [List.getD_eq_getElem?_getD]
 cases e:x[j]? with
 | none=>rfl
 | some v =>
   have:=h v (List.mem_of_getElem? e)
   show max 0 (min v 15)=v
   omega
theorem ve {t:Tok} (h:zo t):xx t<286:=by
 unfold xx
 unfold zo at h
 split
 · omega
 · have:=vY ⟨t.long.toNat,by omega⟩ (show 3≤t.long.toNat by omega)
   dsimp only at this
   cases e:ya t.long.toNat 29 0 with
   | none=>simp
   | some r=>rw [e] at this; simp at this; simp; omega
theorem kO {t:Tok} (h:zo t) (h0 : ¬ t.long=0):xK t<30:=by
 unfold xK
 unfold zo at h
 obtain ⟨r,h1,h2⟩:=qD t.back.toNat (by omega) (by omega)
 rw [h1]
 exact h2
theorem zdO (x y:List Int) (p:List Nat×List Nat) (t:Tok) (hx : ∀ v∈x,0≤v∧v≤15) (hy : ∀ v∈y,0≤v∧v≤15) (ha:p.1.length=286) (hb:p.2.length=30) (ht:zo t) :
 ym (fun j=>((ju p t).1.getD j 0:Nat)*W1 x j) 286+ym (fun j=>((ju p t).2.getD j 0:Nat)*W2 y j) 30
  = ym (fun j=>(p.1.getD j 0:Nat)*W1 x j) 286+ym (fun j=>(p.2.getD j 0:Nat)*W2 y j) 30+qi x y t:=by
 have hl:=ve ht
 have s1:=kN p.1 (xx t) (by omega) (W1 x) 286
 rw [if_pos hl] at s1
 unfold ju
 dsimp only
 rw [s1]
 by_cases h0:t.long=0
 · rw [if_pos h0]
   have hc:xx t=t.byte:=by unfold xx; rw [if_pos h0]
   have h256:t.byte<257:=by unfold zo at ht; omega
   have hB:=Xg ⟨t.byte,h256⟩
   dsimp only at hB
   unfold qi
   rw [if_pos h0,hc]
   unfold W1
   rw [WC hx,hB]
   omega
 · rw [if_neg h0]
   have hk:=kO ht h0
   have s2:=kN p.2 (xK t) (by omega) (W2 y) 30
   rw [if_pos hk] at s2
   rw [s2]
   have hc:xx t=257+(ya t.long.toNat 29 0).getD 0:=by unfold xx; rw [if_neg h0]
   have hkc:xK t=(qb t.back.toNat 30 0).getD 0:=rfl
   rw [hc] at hl ⊢
   rw [hkc] at hk ⊢
   unfold qi
   rw [if_neg h0]
   generalize (ya t.long.toNat 29 0).getD 0=r at *
   generalize (qb t.back.toNat 30 0).getD 0=q at *
   have e1:=Zo ⟨r,by omega⟩
   have e2:=ZE ⟨q,hk⟩
   dsimp only at e1 e2
   unfold W1 W2
   rw [WC hx,WC hy,e1,e2]
   omega
theorem Vk (W:Nat→Int) : ∀ i,ym (fun j=>((List.replicate 30 0).getD j 0:Nat)*W j) i=0
 | 0=>rfl
 | i+1=>by
   rw [yD,Vk W i,List.getD_eq_getElem?_getD,List.getElem?_replicate]
   split<;>simp
theorem Wj (W:Nat→Int) : ∀ i,ym (fun j=>((List.replicate 286 0).getD j 0:Nat)*W j) i=0
 | 0=>rfl
 | i+1=>by
   rw [yD,Wj W i,List.getD_eq_getElem?_getD,List.getElem?_replicate]
   split<;>simp
theorem jJ (x y:List Int) (hx : ∀ v∈x,0≤v∧v≤15) (hy : ∀ v∈y,0≤v∧v≤15) (l:List Tok) (hn:l.length≤100000) (hok : ∀ t∈l,zo t) :
 yT x y (zh l)=kL x y l:=by
 have key : ∀ i,i≤l.length→ym (fun j=>((zh (l.take i)).1.getD j 0:Nat)*W1 x j) 286+ym (fun j=>((zh (l.take i)).2.getD j 0:Nat)*W2 y j) 30=kL x y (l.take i):=by
  intro i
  induction i with
  | zero =>
    intro _
    rw [List.take_zero,kI]
    dsimp only
    rw [Vk]
    have e:(List.replicate 286 0).set 256 1=xr (List.replicate 286 0) 256:=rfl
    rw [e,kN _ _ (by rw [List.length_replicate]; omega),Wj,if_pos (by omega)]
    show 0+W1 x 256+0=x.getD 256 0
    have hB:=Xg ⟨256,by omega⟩
    dsimp only at hB
    unfold W1
    rw [WC hx,hB]
    omega
  | succ i ih =>
    intro h
    have hil:i<l.length:=by omega
    rw [List.take_succ_eq_append_getElem hil,jO,Zw,← ih (by omega)]
    have ho:=xt l i (by omega)
    exact zdO x y _ _ hx hy ho.la ho.lb (hok _ (List.getElem_mem hil))
 have ho:=xt l l.length (Nat.le_refl _)
 have k:=key l.length (Nat.le_refl _)
 rw [List.take_length] at ho k
 rw [zeo x y _ (fun v hv=>by have:=ho.ba v hv; omega) (fun v hv=>by have:=ho.bb v hv; omega),k]
theorem Vt (x y:List Int) (hx : ∀ v∈x,0≤v∧v≤15) (hy : ∀ v∈y,0≤v∧v≤15) (l:List Tok) (hok : ∀ t∈l,zo t) : ∀ i,i≤l.length→0≤kL x y (l.take i)∧kL x y (l.take i)≤15+60*i
 | 0,_=>by
   rw [List.take_zero]
   show 0≤x.getD 256 0∧x.getD 256 0≤15+60*((0:Nat):Int)
   have:=WC hx 256
   omega
 | i+1,h=>by
   have hil:i<l.length:=by omega
   have ih:=Vt x y hx hy l hok i (by omega)
   rw [List.take_succ_eq_append_getElem hil,Zw]
   have hb:0≤qi x y l[i]∧qi x y l[i]≤60:=by
    unfold qi
    have d1:=WC hx l[i].byte
    split
    · omega
    · rename_i h0
      have hl:=ve (hok _ (List.getElem_mem hil))
      have hk:=kO (hok _ (List.getElem_mem hil)) h0
      unfold xx at hl
      unfold xK at hk
      rw [if_neg h0] at hl
      have d2:=WC hx (257+(ya l[i].long.toNat 29 0).getD 0)
      have d3:=WC hy ((qb l[i].back.toNat 30 0).getD 0)
      generalize (ya l[i].long.toNat 29 0).getD 0=r at *
      generalize (qb l[i].back.toNat 30 0).getD 0=q at *
      have e1:=Zo ⟨r,by omega⟩
      have e2:=ZE ⟨q,hk⟩
      have b1:=zaX ⟨257+r,hl⟩
      have b2:=WU ⟨q,hk⟩
      dsimp only at e1 e2 b1 b2
      omega
   have e:((i+1:Nat):Int)=(i:Int)+1:=by omega
   omega
end Go.Proofs.YtfkcdnaghndgfaaGreatDoor
