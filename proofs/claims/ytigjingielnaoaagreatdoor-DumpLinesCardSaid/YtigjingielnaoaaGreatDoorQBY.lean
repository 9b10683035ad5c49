/- The law swinglelaw43: lives, for the laws beside DumpHex (lines of LawDH). -/
import Derived.Test.YtigjingielnaoaaGreatDoorDHx
import Derived.Test.YtigjingielnaoaaGreatDoorQBN
import Derived.Test.YtigjingielnaoaaGreatDoorQBO
import Derived.Test.YtigjingielnaoaaGreatDoorQBV
import Derived.Test.YtigjingielnaoaaGreatDoorQBW
import Derived.Deep.Slices
import Derived.Deep.Fields
import Derived.ChangeSame
import Derived.ProofKit
import Derived.OpenShut
set_option linter.unusedVariables false
set_option linter.unusedSimpArgs false
set_option linter.unusedSectionVars false
namespace Go.Proofs.YtigjingielnaoaaGreatDoor
open Go.RowKit
set_option maxRecDepth 100000 in
theorem YG (w:World):Calls Tryz.prog 21 #[] w fun e w'=>e = .returned (.bool true)∧Upd [] w w':=by
 have HH:=Lib.hid (fun w=>zcS { data := #[65] } 0 w (by decide))
 have HE:Hid (vT (max 0 (min (0:Int) 1073741824)).toNat (ze { data := #[65] })=[[48,48,48,48,48,48,48,48,32,52,49]]):=Lib.hid (by decide)
 rw [HE.out] at HH
 go_enter Tryz.func21,Tryz.ntmps21
 go_wp2_with fail
 refine (HH.out _).mono ?_
 rintro e w1 ⟨v,rfl,hO,hu⟩
 obtain ⟨a,c,rfl,hc,ht⟩:=hO.texts
 obtain ⟨b,o,rfl,hcell⟩:=ht 0 (by simp)
 rw [Nat.add_zero] at hcell
 have hst:((zf [48,48,48,48,48,48,48,48,32,52,49]).toList==[48,48,48,48,48,48,48,48,32,52,49])=true:=by decide +kernel
 clear ht hO HH
 go_wp2
 go_returns
 exact ⟨rfl,hu⟩
end Go.Proofs.YtigjingielnaoaaGreatDoor
namespace Go.Proofs.YtigjingielnaoaaGreatDoor
open Go.RowKit
theorem Vl (a b:Nat) (S:ByteArray) (h:yu a b=true):ju (zf (mkW a b)++S)=zN 32 (je a b):=by
 have hl:(zf (mkW a b)).size=512:=by rw [zh,JV h]
 have hm:min (zf (mkW (a:Int) (b:Int))++S).size 512=512:=by rw [ByteArray.size_append]; omega
 have he:(zf (mkW (a:Int) (b:Int))++S).extract 0 512=zf (mkW a b):=by
  rw [← hl]; exact ByteArray.extract_append_eq_left rfl
 unfold ju
 rw [hm,he,zaO _ _ h]
 rfl
theorem zdt:ju { data := #[120] }=[110,111,32,109,97,114,107]:=by
 have h:(({ data := #[120] }:ByteArray).extract 0 (min ({ data := #[120] }:ByteArray).size 512)).size<8:=by decide
 unfold ju
 rw [zbP h]
 rfl
set_option maxRecDepth 100000 in
set_option maxHeartbeats 6400000 in
theorem ZF (s0:ByteArray) (x y:Nat) (w:World) (hs0:s0.size≤9223372036854775807) (hx:x<18446744073709551616) (hy:y<18446744073709551616) :
 Calls Tryz.prog 4 #[.string s0,.int .u64 (x:Nat),.int .u64 (y:Nat)] w fun e w'=>e = .returned (.bool true)∧Upd [] w w':=by
 obtain ⟨i0,hi,hz0,hz1,hz2⟩:=info_parts Yj
 obtain ⟨n2,hn2⟩ : ∃ n,n=min s0.size 2500:=⟨_,rfl⟩
 have e2:min (s0.size:Int) 2500=(n2:Int):=by omega
 have b2:n2≤s0.size:=by omega
 have hs2:(s0.extract 0 n2).size≤2500:=by rw [ByteArray.size_extract]; omega
 have hs:(s0.extract 0 n2).size≤1000000:=by omega
 clear hn2
 generalize hSS:s0.extract 0 n2=s at *
 have HSS:=Lib.hid hSS
 clear hSS
 have HLV:=Lib.hid YG
 have HLN:=Lib.hid (fun z=>KM s z hs)
 have HPR:=Lib.hid (fun z=>Vf s z hs)
 have HMK:=Lib.hid (fun z=>kU s z hs)
 have HZO:=Lib.hid (fun h=>Yq (s:=s) h)
 have HLT:=Lib.hid (fun h=>zbA s h)
 have HLL:Hid (kF s=(ju s::(xY s).1.map jy)++[zN 32 (Jh (xY s).2.1)]):=Lib.hid rfl
 generalize kF s=LL at *
 generalize ju s=MP at *
 generalize xY s=ZP at *
 obtain ⟨L,⟨ga,gb,gc,gd⟩,why⟩:=ZP
 unfold EgD.v at HPR
 dsimp only at HLN HPR HZO HLL HLT
 obtain ⟨a,ha⟩ : ∃ a,x%1000=a:=⟨_,rfl⟩
 obtain ⟨yb,hyb⟩ : ∃ b,y%100000=b:=⟨_,rfl⟩
 obtain ⟨b,hb⟩ : ∃ b,534+yb=b:=⟨_,rfl⟩
 have ebb:(534:Int)+(yb:Int)=(b:Int):=by omega
 have hra:yu a b=true:=by unfold yu; simp only [Bool.and_eq_true,decide_eq_true_eq]; omega
 have HW:=Lib.hid (fun z=>Yl a b z)
 have HMW:=Lib.hid (fun z=>kU (zf (mkW a b)++s) z (by rw [ByteArray.size_append,zh,JV hra]; omega))
 rw [Vl a b s hra] at HMW
 have HMX:Hid (∀ z,Calls Tryz.prog 18 #[.string { data := #[120] }] z fun e w'=>e = .returned (.string { data := #[110,111,32,109,97,114,107] })∧Upd [] z w'):=Lib.hid (fun z=>by
  have h:=kU { data := #[120] } z (by decide)
  rw [zdt] at h
  exact h)
 have HDA:=Lib.hid (fun z=>qT a z (by omega))
 have HDB:=Lib.hid (fun z=>qT b z (by omega))
 have hzw:(zf (mkW (a:Int) (b:Int))).size=512:=by rw [zh,JV hra]
 have la:=yd 13 a (by omega)
 have lb:=yd 13 b (by omega)
 obtain ⟨TM,hTM⟩ : ∃ TM,zf (zN 32 (je a b))=TM:=⟨_,rfl⟩
 obtain ⟨P1,hP1⟩ : ∃ P,zf ([116,117,114,110,32]++zA a)=P:=⟨_,rfl⟩
 obtain ⟨P2,hP2⟩ : ∃ P,zf (([116,117,114,110,32]++zA a)++[32,108,111,110,103,32])=P:=⟨_,rfl⟩
 have hJ:([116,117,114,110,32]++zA a)++[32,108,111,110,103,32]++zA b=zN 32 (je a b):=by simp [zN,je]
 have z1:=fun w=>zJ [116,117,114,110,32] (zA a) (by simp; omega) w
 have z2:=fun w=>zJ ([116,117,114,110,32]++zA a) [32,108,111,110,103,32] (by simp; omega) w
 have z3:=fun w=>zJ (([116,117,114,110,32]++zA a)++[32,108,111,110,103,32]) (zA b) (by simp; omega) w
 have z0 : ∀ w,(Op.stringOp .add (zf (mkW (a:Int) (b:Int))) s).run Tryz.prog w = .ok (.string (zf (mkW (a:Int) (b:Int))++s)) w:=fun w=>run_string_add_sum _ _ _ (by omega)
 rw [hP1] at z1 z2
 rw [hP2] at z2 z3
 rw [hJ,hTM] at z3
 rw [hTM] at HMW
 rw [show zf [116,117,114,110,32]=({ data := #[116,117,114,110,32] }:ByteArray) from rfl] at z1
 rw [show zf [32,108,111,110,103,32]=({ data := #[32,108,111,110,103,32] }:ByteArray) from rfl] at z2
 generalize zf (mkW (a:Int) (b:Int))=TW at *
 generalize zf (zA a)=DA at *
 generalize zf (zA b)=DB at *
 have Z:=Lib.hid (And.intro z0 (And.intro z1 (And.intro z2 z3)))
 clear z0 z1 z2 z3 hTM hP1 hP2 hJ la lb hzw hra
 go_enter Tryz.func4,Tryz.ntmps4
 go_wp2_with fail
 rw [HSS.out]
 refine (HLN.out _).mono ?_
 rintro e w1 ⟨⟨v1,rfl,hv1,hv2⟩,hu1⟩
 have HV:=Lib.hid (And.intro hv1 hv2)
 clear hv1 hv2 HLN e2 b2 HSS
 go_wp2_with fail
 refine (HPR.out _).mono ?_
 rintro e w2 ⟨⟨v2,rfl,hrw⟩,hu2⟩
 have HC3:=Lib.hid (Blk.new w2 [.int .i64 (ga:Nat),.int .i64 (gb:Nat),.int .i64 (gc:Nat),.int .i64 (gd:Nat)] 44)
 have HU3:=Lib.hid ((hu1.then hu2).alloc (.cells #[.int .i64 (ga:Nat),.int .i64 (gb:Nat),.int .i64 (gc:Nat),.int .i64 (gd:Nat)] 44))
 have HU13:=Lib.hid (hu2.alloc (.cells #[.int .i64 (ga:Nat),.int .i64 (gb:Nat),.int .i64 (gc:Nat),.int .i64 (gd:Nat)] 44))
 have HR3:=Lib.hid (Row.recsAt (hrw.alloc (.cells #[.int .i64 (ga:Nat),.int .i64 (gb:Nat),.int .i64 (gc:Nat),.int .i64 (gd:Nat)] 44)))
 clear hu1 hu2 hrw HPR
 go_upto_region 4 with fail
 change Code.wp _ _ _ _ (w2.alloc (.cells #[.int .i64 (ga:Nat),.int .i64 (gb:Nat),.int .i64 (gc:Nat),.int .i64 (gd:Nat)] 44))
 generalize w2.alloc (.cells #[.int .i64 (ga:Nat),.int .i64 (gb:Nat),.int .i64 (gc:Nat),.int .i64 (gd:Nat)] 44)=w3 at *
 generalize w2.heap.size=c at *
 have ea:((x:Int).tmod 1000)=(a:Int):=by rw [Int.tmod_eq_emod_of_nonneg (by omega)]; omega
 have eb:((y:Int).tmod 100000)=(yb:Int):=by rw [Int.tmod_eq_emod_of_nonneg (by omega)]; omega
 have HM4:=Lib.hid (Blk.new w3 [.int .i64 (a:Nat),.int .i64 (b:Nat)] 48)
 have HC4:=Lib.hid (HC3.out.alloc (.cells #[.int .i64 (a:Nat),.int .i64 (b:Nat)] 48))
 have HU4:=Lib.hid (HU3.out.alloc (.cells #[.int .i64 (a:Nat),.int .i64 (b:Nat)] 48))
 have HU14:=Lib.hid (HU13.out.alloc (.cells #[.int .i64 (a:Nat),.int .i64 (b:Nat)] 48))
 have HR4:=Lib.hid (Zo HR3.out ((Upd.refl [] _).alloc (.cells #[.int .i64 (a:Nat),.int .i64 (b:Nat)] 48)))
 clear HC3 HU3 HU13 HR3
 go_wp2
 clear ea eb ebb
 change Code.wp _ _ _ _ (w3.alloc (.cells #[.int .i64 (a:Nat),.int .i64 (b:Nat)] 48))
 generalize w3.alloc (.cells #[.int .i64 (a:Nat),.int .i64 (b:Nat)] 48)=w4 at *
 generalize w3.heap.size=q at *
 obtain ⟨z0,z1,z2,z3⟩:=Z.out
 refine wp_region_held_drew (S:=fun w'=>Blk w' q [.int .i64 (a:Nat),.int .i64 (b:Nat)] 48∧Upd [] w4 w') (by kernel_rfl) ⟨HM4.out.drew,(Upd.refl [] _).drew⟩ (fun hHeld=>hdN ?_)
 refine hdT 0 (some 40) ?_ (hy:=by intro w5 hSw; have qA:=hSw.1.all; go_simp; try with_reducible rfl)
 refine hdT 2 (some 42) ?_; refine hdT 5 (some 45) ?_
 refine hdT 6 (some 46) ?_ (hy:=by intro w5 hSw; have q0c:=hSw.1.cell 0 rfl; go_simp; try with_reducible rfl); refine hdT 10 (some 50) ?_
 refine hdT 11 (some 51) ?_ (hy:=by intro w5 hSw; have q0c:=hSw.1.cell 1 rfl; go_simp; try with_reducible rfl)
 refine hdO 1 (fun K hK=>?_)
 go_simp
 refine (HW.out _).mono ?_
 rintro e z9 ⟨rfl,hz9⟩
 go_wp2
 refine hK.out _ _ ⟨hHeld.1.upd hz9 (by simp),hHeld.2.then hz9⟩ (fun hHeld=>hdN ?_)
 clear hK K
 refine hdT 3 (some 43) ?_
 refine hdO 4 (fun K hK=>?_)
 go_simp
 refine (HMW.out _).mono ?_
 rintro e z9 ⟨rfl,hz9⟩
 go_wp2
 refine hK.out _ _ ⟨hHeld.1.upd hz9 (by simp),hHeld.2.then hz9⟩ (fun hHeld=>hdN ?_)
 clear hK K
 refine hdO 7 (fun K hK=>?_)
 go_simp
 refine (HDA.out _).mono ?_
 rintro e z9 ⟨rfl,hz9⟩
 go_wp2
 refine hK.out _ _ ⟨hHeld.1.upd hz9 (by simp),hHeld.2.then hz9⟩ (fun hHeld=>hdN ?_)
 clear hK K
 refine hdT 8 (some 48) ?_; refine hdT 9 (some 49) ?_
 refine hdO 12 (fun K hK=>?_)
 go_simp
 refine (HDB.out _).mono ?_
 rintro e z9 ⟨rfl,hz9⟩
 go_wp2
 refine hK.out _ _ ⟨hHeld.1.upd hz9 (by simp),hHeld.2.then hz9⟩ (fun hHeld=>hdN ?_)
 clear hK K
 refine hdT 13 (some 53) ?_; refine hdT 14 (some 54) ?_; refine hdT 15 (some 55) ?_
 refine hdO 16 (fun K hK=>?_)
 go_simp
 refine (HMX.out _).mono ?_
 rintro e z9 ⟨rfl,hz9⟩
 go_wp2
 refine hK.out _ _ ⟨hHeld.1.upd hz9 (by simp),hHeld.2.then hz9⟩ (fun hHeld=>hdN ?_)
 clear hK K
 refine hdT 17 (some 57) ?_; refine hdT 18 (some 58) ?_; refine hdT 19 (some 59) ?_; refine hdT 20 (some 60) ?_; refine hdT 21 (some 61) ?_
 refine hdT 22 (some 62) ?_; refine hdT 23 (some 63) ?_
 refine wpAnyH_done (by kernel_rfl) ?_ 0
 generalize z9=w5 at *
 clear z0 z1 z2 z3 Z HW HMW HMX HDA HDB HM4
 have HC5:=Lib.hid (HC4.out.upd hHeld.2 (by simp))
 have HU5:=Lib.hid (HU4.out.then hHeld.2)
 have HU15:=Lib.hid (HU14.out.then hHeld.2)
 have HR5:=Lib.hid (Zo HR4.out hHeld.2)
 clear hHeld HC4 HU4 HU14 HR4
 by_cases h0:why=0
 rotate_left
 · have e1:(((why:Nat):Int) != 0)=true:=by rw [bne_iff_ne]; omega
   have hv:=HV.out.1 h0
   subst hv
   clear h0
   go_wp2_with fail
   refine (HLV.out _).mono ?_
   rintro e z7 ⟨rfl,hu⟩
   go_wp2
   go_ret
   exact ⟨rfl,HU5.out.then hu⟩
 subst h0
 have hrw:=HV.out.2 rfl
 obtain ⟨hro,hfi,hll⟩:=HZO.out rfl
 have HFI:=Lib.hid hfi
 have HLT2:=Lib.hid (HLT.out rfl)
 have HET:=Lib.hid (XO ⟨ga,gb,gc,gd⟩ hro)
 have HV1:=Lib.hid (Row.textsAt hrw)
 unfold zH at hro
 simp only [Bool.and_eq_true,decide_eq_true_eq] at hro
 have l1:=yd 13 ga (by omega)
 have l2:=yd 13 gb (by omega)
 have l3:=yd 13 gc (by omega)
 have H1:=Lib.hid (fun w=>qT gc w (by omega))
 have H2:=Lib.hid (fun w=>qT gb w (by omega))
 have H3:=Lib.hid (fun w=>qT ga w (by omega))
 obtain ⟨EL,hEL⟩ : ∃ EL,zN 32 (Jh ⟨ga,gb,gc,gd⟩)=EL:=⟨_,rfl⟩
 have hJ:[101,110,100,32]++zA gc++[32]++zA gb++[32]++zA ga=EL:=by rw [← hEL]; simp [zN,Jh]
 have z1:=fun w=>zJ [101,110,100,32] (zA gc) (by simp; omega) w
 have z2:=fun w=>zJ ([101,110,100,32]++zA gc) [32] (by simp; omega) w
 have z3:=fun w=>zJ ([101,110,100,32]++zA gc++[32]) (zA gb) (by simp; omega) w
 have z4:=fun w=>zJ ([101,110,100,32]++zA gc++[32]++zA gb) [32] (by simp; omega) w
 have z5:=fun w=>zJ ([101,110,100,32]++zA gc++[32]++zA gb++[32]) (zA ga) (by simp; omega) w
 rw [hJ] at z5
 rw [hEL] at HLL
 generalize zf ([101,110,100,32]++zA gc++[32]++zA gb++[32])=Q4 at *
 generalize zf ([101,110,100,32]++zA gc++[32]++zA gb)=Q3 at *
 generalize zf ([101,110,100,32]++zA gc++[32])=Q2 at *
 generalize zf ([101,110,100,32]++zA gc)=Q1 at *
 rw [show zf [101,110,100,32]=({ data := #[101,110,100,32] }:ByteArray) from rfl] at z1
 rw [show zf [32]=({ data := #[32] }:ByteArray) from rfl] at z2 z4
 generalize zf (zA gc)=D1 at *
 generalize zf (zA gb)=D2 at *
 generalize zf (zA ga)=D3 at *
 have Z:=Lib.hid (And.intro z1 (And.intro z2 (And.intro z3 (And.intro z4 z5))))
 clear z1 z2 z3 z4 z5 hJ hEL l1 l2 l3 hfi hro hrw HZO HLT HV
 obtain ⟨ra,cap,rfl,hrec⟩:=HR5.out
 have HRA:=Lib.hid hrec
 clear hrec HR5
 obtain ⟨n,hnn⟩ : ∃ n,L.length=n:=⟨_,rfl⟩
 rw [hnn] at hll ⊢
 have HN:=Lib.hid hnn
 clear hnn
 go_wp2_with fail
 refine (HMK.out _).mono ?_
 rintro e w6 ⟨rfl,hu⟩
 have hcw:c<w5.heap.size:=HC5.out.lt
 have HC6:=Lib.hid ((HC5.out.upd hu (by simp)).alloc (.cells #[.string (zf MP)] 9))
 have HU6:=Lib.hid (hu.alloc (.cells #[.string (zf MP)] 9))
 have HR3:Hid (Row (w6.alloc (.cells #[.string (zf MP)] 9)) 9 1 (.slice (some ⟨w6.heap.size,0,none⟩) 1 1) 1 (yw [MP])):=Lib.hid (Row.new w6 (yw [MP]) 9 1 1 (by unfold maxLen; omega) rfl)
 have HW3:Hid (w5.heap.size≤w6.heap.size):=Lib.hid hu.size
 clear hu HMK
 go_upto_region 10 with fail
 change Code.wp _ _ _ _ (w6.alloc (.cells #[.string (zf MP)] 9))
 generalize w6.alloc (.cells #[.string (zf MP)] 9)=w7 at *
 generalize w6.heap.size=g0 at *
 go_wp2
 go_loopg [13,77] n (fun gg v7 s24 wr => ∃ (i:Nat) (done:List (List Nat)),i≤n∧gg=n-i∧s24 = .int .i64 (i:Nat)∧Hid (done=MP::(L.take i).map jy)∧Hid (Row wr 9 1 v7 done.length (yw done))∧Hid (∀ b,v7.ownBlock=some b→w5.heap.size≤b)∧Hid (Blk wr c [.int .i64 (ga:Nat),.int .i64 (gb:Nat),.int .i64 (gc:Nat),.int .i64 (gd:Nat)] 44∧Upd [] w5 wr))
 case atStart=>exact ⟨0,[MP],Nat.zero_le _,rfl,rfl,Lib.hid (by simp),HR3,Lib.hid (fun b hb=>by have:=HW3.out; simp [Value.ownBlock] at hb; omega),Lib.hid ⟨HC6.out,HU6.out⟩⟩
 case round =>
  obtain ⟨i,done,hin,rfl,rfl,HD,HR,HO,HS⟩:=hrel
  have hdl:done.length=i+1:=by rw [HD.out,List.length_cons,List.length_map,List.length_take,HN.out]; omega
  rw [hdl] at HR
  obtain ⟨va,vc,hvf⟩:=HR.out.form
  subst hvf
  clear HR3 HC6 HU6 HW3
  by_cases hc:i<n
  · have hcz:(i:Int)<(n:Int):=by omega
    have hil:i<L.length:=by rw [HN.out]; exact hc
    obtain ⟨b1,o1,rfl,g1⟩:=HRA.out i hil
    have HD2:Hid (done++[jy L[i]]=MP::(L.take (i+1)).map jy):=Lib.hid (by rw [HD.out,List.take_succ_eq_append_getElem hil,List.map_append]; rfl)
    obtain ⟨r,hr⟩ : ∃ r,r=L[i]:=⟨_,rfl⟩
    rw [← hr] at g1 HD2
    have hf:r.Fits:=HFI.out r (by rw [hr]; exact List.getElem_mem hil)
    have HDR:=Lib.hid (fun z=>zcz r z hf)
    have HCA:=Lib.hid (fun f x h=>HS.out.2.keep (g1 f x h))
    clear g1 hf hr
    generalize jy r=RW at *
    obtain ⟨p,m,sum,l2,wh,k,md,t,pos⟩:=r
    unfold RecD.v at HDR
    unfold RecD.cells at HCA
    dsimp only at HDR HCA
    have c0:=HCA.out 0 (.string p) rfl
    have c1:=HCA.out 1 (.int .i64 m) rfl
    have c2:=HCA.out 2 (.int .u32 (sum:Nat)) rfl
    have c3:=HCA.out 3 (.int .i64 l2) rfl
    have c4:=HCA.out 4 (.int .i64 wh) rfl
    have c5:=HCA.out 5 (.int .i64 k) rfl
    have c6:=HCA.out 6 (.int .i64 md) rfl
    have c7:=HCA.out 7 (.int .u32 (t:Nat)) rfl
    have c8:=HCA.out 8 (.int .i64 pos) rfl
    simp only [Nat.add_zero] at c0
    have hw3:IntKind.i64.wrap ((i:Int)+1)=(i:Int)+1:=IntWalk.i64_in _ (by omega)
    have HB:=Lib.hid (Blk.new wr [.string p,.int .i64 m,.int .u32 (sum:Nat),.int .i64 l2,.int .i64 wh,.int .i64 k,.int .i64 md,.int .u32 (t:Nat),.int .i64 pos] 52)
    have HS1:=Lib.hid (And.intro (HS.out.1.alloc (.cells #[.string p,.int .i64 m,.int .u32 (sum:Nat),.int .i64 l2,.int .i64 wh,.int .i64 k,.int .i64 md,.int .u32 (t:Nat),.int .i64 pos] 52)) (HS.out.2.alloc (.cells #[.string p,.int .i64 m,.int .u32 (sum:Nat),.int .i64 l2,.int .i64 wh,.int .i64 k,.int .i64 md,.int .u32 (t:Nat),.int .i64 pos] 52)))
    have HR1:=Lib.hid (HR.out.alloc (.cells #[.string p,.int .i64 m,.int .u32 (sum:Nat),.int .i64 l2,.int .i64 wh,.int .i64 k,.int .i64 md,.int .u32 (t:Nat),.int .i64 pos] 52))
    have HUW:=HS.out.2.size
    go_upto_region 13 with fail
    change Code.wp _ _ _ _ (wr.alloc (.cells #[.string p,.int .i64 m,.int .u32 (sum:Nat),.int .i64 l2,.int .i64 wh,.int .i64 k,.int .i64 md,.int .u32 (t:Nat),.int .i64 pos] 52))
    generalize wr.alloc (.cells #[.string p,.int .i64 m,.int .u32 (sum:Nat),.int .i64 l2,.int .i64 wh,.int .i64 k,.int .i64 md,.int .u32 (t:Nat),.int .i64 pos] 52)=w8 at *
    generalize wr.heap.size=q at *
    clear c0 c1 c2 c3 c4 c5 c6 c7 c8 HCA HS HR
    have c0:=HB.out.cell 0 rfl
    have c1:=HB.out.cell 1 rfl
    have c2:=HB.out.cell 2 rfl
    have c3:=HB.out.cell 3 rfl
    have c4:=HB.out.cell 4 rfl
    have c5:=HB.out.cell 5 rfl
    have c6:=HB.out.cell 6 rfl
    have c7:=HB.out.cell 7 rfl
    have c8:=HB.out.cell 8 rfl
    go_wp2_with fail
    refine (HDR.out _).mono ?_
    rintro e w9 ⟨rfl,hu6⟩
    have HS2:=Lib.hid (And.intro (HS1.out.1.upd hu6 (by simp)) (HS1.out.2.then hu6))
    have HR2:=Lib.hid (HR1.out.upd hu6 (by simp))
    clear hu6 HS1 HR1 HB HDR c0 c1 c2 c3 c4 c5 c6 c7 c8
    go_wp2_with (at_builtin; refine zE _ rfl _ _ 33 rfl 9 i0 _ 1 16 Tryz.underlying33 hi hz0 hz1 hz2 rfl (by omega) (.slice va (i+1) vc) (i+1) _ rfl (HR2.out.alloc _) ⟨w9.heap.size,0,none⟩ 1 1 [_] rfl rfl (World.news_of_block (cs := #[_]) (t:=9) (fr:=(0,0)) (heap_alloc_new _ _)) (by simp [Value.oneCell']) (by unfold maxLen; omega) (by omega) ?_)
    rintro v9 w10 hR9 hU9 hT9
    obtain ⟨va9,vc9,rfl⟩:=hR9.form
    have HF:Hid (Row w10 9 1 (.slice va9 (i+1+1) vc9) (done++[RW]).length (yw (done++[RW]))∧(∀ b,(Value.slice va9 (i+1+1) vc9).ownBlock=some b→w5.heap.size≤b)∧Blk w10 c [.int .i64 (ga:Nat),.int .i64 (gb:Nat),.int .i64 (gc:Nat),.int .i64 (gd:Nat)] 44∧Upd [] w5 w10):=Lib.hid (by
     have hn2:=HO.out
     have hsz:=HS2.out.2.size
     refine ⟨?_,fun b hb=>?_,?_,?_⟩
     · rw [List.length_append,hdl,show yw (done++[RW])=yw done++yw [RW] from List.map_append ..]
       exact hR9
     · rcases hT9 with e | ⟨g,e1,e2⟩
       · exact hn2 b (by rw [← e]; exact hb)
       · rw [hb] at e1; simp at e1 e2; omega
     · refine (HS2.out.1.alloc (.cells #[.string (zf RW)] 9)).upd hU9 (fun hm=>?_)
       have:=hn2 c (by simpa using hm)
       omega
     · exact (HS2.out.2.alloc _).trans hU9 (fun k hk => .inr (hn2 k (by simpa using hk))))
    clear hR9 hU9 hT9 HO HR2 HS2
    go_wp2
    go_roundg (n-(i+1))
    · exact ⟨i+1,done++[RW],by omega,rfl,by go_num,HD2,Lib.hid HF.out.1,Lib.hid HF.out.2.1,Lib.hid HF.out.2.2⟩
    · omega
  · have hcz : ¬ (i:Int)<(n:Int):=by omega
    have hie:i=n:=by omega
    subst hie
    have HLE:Hid (LL=done++[EL]):=Lib.hid (by rw [HLL.out,HD.out,List.take_of_length_le (by rw [HN.out]; exact Nat.le_refl _)])
    have hkl:i+1≤65536:=by omega
    clear HD hc HLL
    go_upto_region 15 with fail
    have HRr:=Lib.hid HR.out.drew
    obtain ⟨z1,z2,z3,z4,z5⟩:=Z.out
    refine wp_region_held_drew (S:=fun w'=>Blk w' c [.int .i64 (ga:Nat),.int .i64 (gb:Nat),.int .i64 (gc:Nat),.int .i64 (gd:Nat)] 44∧Upd [] w5 w') (by kernel_rfl) ⟨HS.out.1.drew,HS.out.2.drew⟩ (fun hHeld=>hdN ?_)
    refine hdT 0 (some 87) ?_; refine hdT 1 (some 88) ?_
    refine hdT 2 (some 89) ?_ (hy:=by intro w5 hSw; have q0c:=hSw.1.cell 2 rfl; go_simp; try with_reducible rfl); refine hdT 6 (some 93) ?_
    refine hdT 7 (some 94) ?_ (hy:=by intro w5 hSw; have q0c:=hSw.1.cell 1 rfl; go_simp; try with_reducible rfl); refine hdT 11 (some 98) ?_
    refine hdT 12 (some 99) ?_ (hy:=by intro w5 hSw; have q0c:=hSw.1.cell 0 rfl; go_simp; try with_reducible rfl)
    refine hdO 3 (fun K hK=>?_)
    go_simp
    refine (H1.out _).mono ?_
    rintro e z9 ⟨rfl,hz9⟩
    have HRr:=Lib.hid (HRr.out.upd hz9 (by simp))
    go_wp2
    refine hK.out _ _ ⟨hHeld.1.upd hz9 (by simp),hHeld.2.then hz9⟩ (fun hHeld=>hdN ?_)
    clear hK K
    refine hdT 4 (some 91) ?_; refine hdT 5 (some 92) ?_
    refine hdO 8 (fun K hK=>?_)
    go_simp
    refine (H2.out _).mono ?_
    rintro e z9 ⟨rfl,hz9⟩
    have HRr:=Lib.hid (HRr.out.upd hz9 (by simp))
    go_wp2
    refine hK.out _ _ ⟨hHeld.1.upd hz9 (by simp),hHeld.2.then hz9⟩ (fun hHeld=>hdN ?_)
    clear hK K
    refine hdT 9 (some 96) ?_; refine hdT 10 (some 97) ?_
    refine hdO 13 (fun K hK=>?_)
    go_simp
    refine (H3.out _).mono ?_
    rintro e z9 ⟨rfl,hz9⟩
    have HRr:=Lib.hid (HRr.out.upd hz9 (by simp))
    go_wp2
    refine hK.out _ _ ⟨hHeld.1.upd hz9 (by simp),hHeld.2.then hz9⟩ (fun hHeld=>hdN ?_)
    clear hK K
    refine hdT 14 (some 101) ?_
    refine hdO 15 (fun K hK=>?_)
    go_simp
    have HRr:=Lib.hid (HRr.out.alloc (.cells #[.string (zf EL)] 9))
    go_wp2
    refine hK.out _ _ ⟨hHeld.1.alloc _,hHeld.2.alloc _⟩ (fun hHeld=>hdN ?_)
    clear hK K
    refine hdO 16 (fun K hK=>?_)
    refine jA _ rfl _ _ 33 rfl 9 i0 _ 1 16 Tryz.underlying33 hi hz0 hz1 hz2 rfl (by omega) (.slice va (i+1) vc) (i+1) _ rfl HRr.out ⟨z9.heap.size,0,none⟩ 1 1 [_] rfl rfl (World.news_of_block (cs := #[_]) (t:=9) (fr:=(0,0)) (heap_alloc_new _ _)) (by simp [Value.oneCell']) (by unfold maxLen; omega) (by omega) ?_
    intro v9 w9 hR9 hU9 hT9
    obtain ⟨va9,vc9,rfl⟩:=hR9.form
    go_wp2
    refine hK.out _ _ ⟨hHeld.1.upd hU9 (fun hm=>by have:=HO.out c (by simpa using hm); omega),hHeld.2.trans hU9 (fun k hk => .inr (HO.out k (by simpa using hk)))⟩ (fun hHeld=>hdN ?_)
    clear hK K
    refine hdT 17 (some 13) ?_
    refine wpAnyH_done (by kernel_rfl) ?_ 0
    clear z1 z2 z3 z4 z5
    have HQ9:Hid (TextsAt w9 (.slice va9 (i+1+1) vc9) LL):=Lib.hid (by
     have h:=Row.textsAt (ps:=LL) (v := .slice va9 (i+1+1) vc9) (w:=w9) (by
      rw [HLE.out,List.length_append,hdl,show yw (done++[EL])=yw done++yw [EL] from List.map_append ..]
      exact hR9)
     exact h)
    have hl9:LL.length≤1000000:=by rw [HLE.out,List.length_append,hdl,List.length_singleton]; omega
    have HSM:=Lib.hid (fun z h1 h2=>Vq LL LL v1 (.slice va9 (i+1+1) vc9) z h1 h2 HLT2.out HLT2.out hl9 hl9)
    have HV9:=Lib.hid (HV1.out.upd (HU15.out.then hHeld.2))
    have HU9:=Lib.hid (HU5.out.then hHeld.2)
    have hdt:Hid (decide (LL=LL)=true):=Lib.hid (decide_eq_true rfl)
    clear hR9 hU9 hT9 hHeld
    go_wp2_with fail
    refine (HSM.out _ HV9.out HQ9.out).mono ?_
    rintro e w11 ⟨rfl,hu11⟩
    rw [hdt.out]
    go_wp2_with fail
    refine (HLV.out _).mono ?_
    rintro e w12 ⟨rfl,hu12⟩
    go_wp2
    go_ret
    exact ⟨rfl,(HU9.out.then hu11).then hu12⟩
end Go.Proofs.YtigjingielnaoaaGreatDoor
namespace Go.Proofs.YtigjingielnaoaaGreatDoor
open Go.ChangeShapes Go.WideShapes Go.Deep
theorem add_zero (a:Addr):a.add 0=a:=by unfold Addr.add; simp
section
variable {H:Type} {enc:TypeId×Value→H} {P:Program} {w:World} {base:Nat} {spare:Nat→Bool} {held:Bool}
end
end Go.Proofs.YtigjingielnaoaaGreatDoor
