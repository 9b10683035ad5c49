/- lives of the law swinglelaw23: its walk. -/
import Derived.Test.YtfkenhihcmmgkaaGreatDoorQBR
set_option linter.unusedVariables false
set_option linter.unusedSimpArgs false
set_option linter.unusedSectionVars false
set_option maxRecDepth 100000
set_option maxHeartbeats 12800000
namespace Go.Proofs.YtfkenhihcmmgkaaGreatDoor
open Go.RowKit
theorem zki:WA ⟨kD,0,false⟩=(⟨33639248,2048,0,2147483648,0,2162688,2363233923,1,1,0,zf kN⟩,⟨kD,kD.size,false⟩):=by
 obtain ⟨a,b,c,d,e,f,g,h,i,j,k,l,m,n⟩:=zkw;have hz:=qo.2.2.1;have hl:XK kD=kD.size:=by unfold XK; rw [k,l,m,hz]
 rw [zfx kD (by omega) (by omega),a,b,c,d,e,f,g,h,i,j,k,n,hl]
theorem zjM (w:World):Calls Tryz.prog 51 #[.string kX,.int .i64 9] w fun e w'=>e = .returned (.tuple #[RecD.v kR,.string kA,.int .i64 0])∧Upd [] w w' :=
 zgs kN kX kA 2363233923 w rfl (fun z=>ziz kN kX 2363233923 z (by decide) (by decide) zka zjO zjk (fun u=>zkz u))
theorem ziV (t:Nat) (w:World) (hT:TreeE w t):Calls Tryz.prog 19 #[.string { data := #[] },.pointer (some ⟨t,0,none⟩),.string kX,.int .i64 9] w fun e w'=>e = .returned (.tuple #[.string kS,.int .i64 0])∧Upd [] w w':=by
 have h:=zdf t 2363233923 kN kX kA w hT (by rw [qo.1]; omega) (by rw [qo.1]; omega) ⟨by decide,by decide,by decide⟩ zjM;have hd:(xz [(⟨kN,0,2363233923,1,1,1,0,2162688,0⟩:RecD)]).length=54:=qo.2.2.2;rw [hd,qo.1] at h;exact h
theorem zjD (w:World):Calls Tryz.prog 73 #[.string kS,.int .i64 (93:Nat)] w fun e w'=>e = .returned (.tuple #[EgD.v ⟨1,54,39,0⟩,.bool true])∧Upd [] w w':=by
 obtain ⟨a,b,c,d,e,f,g,h⟩:=zkb;exact za4 kS kE 93 1 54 39 w (by rw [qo.2.1]; omega) (by rw [qo.2.1]; omega) (by rw [qo.2.1]; exact zjq.2) h a b c d e f g (by decide)
theorem ziD (w:World):Calls Tryz.prog 12 #[.string kS] w fun e w'=>(∃ v,e = .returned (.tuple #[v,.agg #[.int .i64 1,.int .i64 (54:Nat),.int .i64 (39:Nat),.int .i64 0],.int .i64 0])∧Row w' 26 9 v 1 (vh [kR]))∧Upd [] w w' :=
 zcE kS kD 54 39 93 kR w (by rw [qo.2.1]; omega) (by omega) (by rw [qo.2.1]; omega) zjq.1 ⟨by decide,by decide,by decide⟩ zjT
  (fun z=>WQ kS 1 54 39 93 _ z (by rw [qo.2.1]; omega) zkC zjD)
  (fun z=>zcY kD kN 2363233923 z (by rw [qo.2.2.1]; omega) (by decide) (fun u=>zaj kD kN 2363233923 kD.size (zf kN) u (by rw [qo.2.2.1]; omega) (by decide) (by decide) zki (zE kN) zjS zjk))
theorem za7 (w:World):Calls Tryz.prog 5 #[] w fun e w'=>e = .returned (.bool true)∧Upd [] w w':=by
 have HB:=Hi (fun t z h=>ziV t z h);have HP:=Hi (fun z=>ziD z);have hx:kX = { data := #[120] }:=rfl;rw [hx] at HB;have HN:Hid (kN = { data := #[46,115,119,105,110,103,108,101] }):=Hi rfl;unfold kR at HP;generalize kS=S at *;generalize kN=N at *;clear hx;go_enter Tryz.func5,Tryz.ntmps5;go_wp2_with fail
 refine (za2 _).mono ?_;rintro e w1 ⟨t,rfl,hT,hu1⟩;have HBt:=Hi (HB.out t w1 hT);have HU:=Hi hu1;clear hT hu1 HB;go_wp2_with fail
 refine HBt.out.mono ?_;rintro e w2 ⟨rfl,hu2⟩;have HU:=Hi (HU.out.then hu2);clear hu2 HBt;go_wp2_with fail
 refine (HP.out _).mono ?_;rintro e w3 ⟨⟨v,rfl,hR⟩,hu3⟩;have HU:=Hi (HU.out.then hu3);obtain ⟨g,cap,rfl,hg,hc⟩:=hR.form' (by omega);have HR:=Hi hR;clear hR hu3 HP;have q0:=HR.out.cell 0 (u := .string N) rfl;go_wp2;go_ret;have hb:N.toList=[46,115,119,105,110,103,108,101]:=by rw [HN.out]; decide +kernel
 exact ⟨by simp [hb],HU.out.alloc _⟩
theorem Vi (s:ByteArray) (E:Int) : ∀ (l:List RecD) (out:List (Int×Int)),(vZ s E l out).1.length≤out.length+l.length
 | [],out=>by simp [vZ]
 | r::l,out=>by
   unfold vZ;split
   · simp
   · split
     · simp
     · refine Nat.le_trans (Vi s E l _) ?_;simp; omega
theorem zeC (s:ByteArray) (l:List RecD):(qd s l).1.length≤l.length:=by have:=Vi s ((s.size:Int)-(qt l:Nat)-22) l []; simpa [qd] using this
theorem SpAt.upd {w w':World} {v:Value} {l:List (Int×Int)} (h:SpAt w v l) (hu:Upd [] w w'):SpAt w' v l:=by
 obtain ⟨a,cap,rfl,hc,h⟩:=h;refine ⟨a,cap,rfl,hc,fun i hi=>?_⟩;obtain ⟨b,off,e,h1,h2⟩:=h i hi;exact ⟨b,off,e,(hu.cell (p:=⟨b,_,none⟩) (Qa h1) (by simp)).trans h1,(hu.cell (p:=⟨b,_,none⟩) (Qa h2) (by simp)).trans h2⟩
theorem za9 (s0:ByteArray) (l:List RecD) (v:Value) (w:World) (hs0:s0.size≤9223372036854775807) (hA:RecsAt w v l) (hl : ∀ r∈l,r.p.size≤9223372036854775807∧r.sum<4294967296∧r.t<4294967296) (hlen:l.length≤9223372036854775807) :
 Calls Tryz.prog 3 #[.string s0,v] w fun e w'=>e = .returned (.bool true)∧Upd [] w w':=by
 have HLV:=Hi (fun z=>za7 z);obtain ⟨n1,hn1⟩ : ∃ n,n=min s0.size 1500:=⟨_,rfl⟩;have e1:min (s0.size:Int) 1500=(n1:Int):=by omega
 have b1:n1≤s0.size:=by omega
 obtain ⟨s,hs⟩ : ∃ s,s0.extract 0 n1=s:=⟨_,rfl⟩;have hsz:s.size≤1500:=by rw [← hs,ByteArray.size_extract]; omega
 have HSE:=Hi hs;clear hs hn1;have HA:=Hi hA;have HF:=Hi hl;obtain ⟨a,cap,rfl,h⟩:=hA;have H:=Hi h;clear h hl;obtain ⟨n,hnn⟩ : ∃ n,l.length=n:=⟨_,rfl⟩;rw [hnn] at hlen HA ⊢;have HN:=Hi hnn;clear hnn;go_enter Tryz.func3,Tryz.ntmps3;go_upto_region 2 with fail
 rw [HSE.out];clear e1 b1 HSE;by_cases h12:12<n
 · have h12z:(12:Int)<(n:Int):=(by omega);go_wp2_with fail
   refine (HLV.out _).mono ?_;rintro e w5 ⟨rfl,hU5⟩;go_wp2;go_ret;exact ⟨rfl,hU5⟩
 have h12z : ¬ (12:Int)<(n:Int):=by omega
 go_wp2;go_loopg [5,24] n (fun gg s5 s24 wr => ∃ i,i≤n∧gg=n-i∧s24 = .int .i64 (i:Nat) ∧ ∃ dv,s5 = .string dv∧Hid (dv=zg (xz (l.take i)))∧Hid (∀ r∈l.take i,r.Fits)∧Hid (Upd [] w wr))
 case atStart=>exact ⟨0,Nat.zero_le _,rfl,rfl,_,rfl,Hi (by rw [List.take_zero]; rfl),Hi (fun r hr=>by simp at hr),Hi (Upd.refl _ _)⟩
 case round =>
  obtain ⟨i,hin,rfl,rfl,dv,rfl,HD,HT,HU⟩:=hrel;by_cases hc:i<n
  · have hcz:(i:Int)<(n:Int):=(by omega);have hil:i<l.length:=(by rw [HN.out]; exact hc);obtain ⟨b1,o1,rfl,g1⟩:=H.out i hil;obtain ⟨r,hr⟩ : ∃ r,r=l[i]:=⟨_,rfl⟩;have hm:=HF.out r (by rw [hr]; exact List.getElem_mem hil);rw [← hr] at g1;have hlt : ∀ f u,r.cells[f]? =some u→wr.cell? ⟨b1,o1+i*9+f,none⟩=some u:=fun f u hu=>(HU.out.cell (p:=⟨b1,_,none⟩) (Qa (g1 f u hu)) (by simp)).trans (g1 f u hu);have HTS:Hid (l.take (i+1)=l.take i++[r]):=Hi (by rw [List.take_succ_eq_append_getElem hil,hr]);have HW:=Hi (fun (h:r.p.size≤300) z=>YR r z ⟨by omega,hm.2.1,hm.2.2⟩);have HFT:=Hi (fun (h:r.p.size≤300)=>(⟨by omega,hm.2.1,hm.2.2⟩:r.Fits));have HWL:=Hi (JF r);have hdz:dv.size≤3600:=by
     rw [HD.out,zk];have:=Jh (l.take i);rw [List.length_take] at this;omega
    clear hr g1 hm;obtain ⟨p,m,sum,le,wh,k,md,t,pos⟩:=r;unfold RecD.v at HW;dsimp only at HW HFT;have c0:=hlt 0 (.string p) rfl;have c1:=hlt 1 (.int .i64 m) rfl;have c2:=hlt 2 (.int .u32 (sum:Nat)) rfl;have c3:=hlt 3 (.int .i64 le) rfl;have c4:=hlt 4 (.int .i64 wh) rfl;have c5:=hlt 5 (.int .i64 k) rfl;have c6:=hlt 6 (.int .i64 md) rfl;have c7:=hlt 7 (.int .u32 (t:Nat)) rfl;have c8:=hlt 8 (.int .i64 pos) rfl;simp only [Nat.add_zero] at c0;clear hlt;have HB:=Hi (Blk.new wr [.string p,.int .i64 m,.int .u32 (sum:Nat),.int .i64 le,.int .i64 wh,.int .i64 k,.int .i64 md,.int .u32 (t:Nat),.int .i64 pos] 26);have HU1:=Hi (HU.out.alloc (.cells #[.string p,.int .i64 m,.int .u32 (sum:Nat),.int .i64 le,.int .i64 wh,.int .i64 k,.int .i64 md,.int .u32 (t:Nat),.int .i64 pos] 26));have hw1:IntKind.i64.wrap ((i:Int)+1)=((i+1:Nat):Int):=(by rw [IntWalk.i64_in _ (by omega)]; rfl);(go_upto_region 8 with fail);change Code.wp _ _ _ _ (wr.alloc (.cells #[.string p,.int .i64 m,.int .u32 (sum:Nat),.int .i64 le,.int .i64 wh,.int .i64 k,.int .i64 md,.int .u32 (t:Nat),.int .i64 pos] 26));generalize wr.alloc (.cells #[.string p,.int .i64 m,.int .u32 (sum:Nat),.int .i64 le,.int .i64 wh,.int .i64 k,.int .i64 md,.int .u32 (t:Nat),.int .i64 pos] 26)=w2 at *;generalize wr.heap.size=g at *;clear c0 c1 c2 c3 c4 c5 c6 c7 c8 HU;have cA:=HB.out.all;by_cases hbad:300<p.size∨1000<wh
    · rcases (by omega:300<p.size∨(¬ 300<p.size∧1000<wh)) with h1 | ⟨h1,h2⟩;all_goals
       clear hbad;(go_wp2_with fail);refine (HLV.out _).mono ?_;rintro e w5 ⟨rfl,hU5⟩;go_wp2;go_ret;exact ⟨rfl,HU1.out.then hU5⟩
    have h1 : ¬ 300<p.size:=(by omega);have h2 : ¬ 1000<wh:=(by omega);have HFT2:=Hi (HFT.out (by omega));have HW2:=Hi (HW.out (by omega));obtain ⟨x,hx⟩ : ∃ x,zg (yO ⟨p,m,sum,le,wh,k,md,t,pos⟩)=x:=⟨_,rfl⟩;have hxz:x.size≤300:=(by rw [← hx,zk]; exact HWL.out);rw [hx] at HW2;have HX:=Hi hx;have HAD:=Hi (fun w=>run_string_add_sum (P:=Tryz.prog) w dv x (by omega));clear hx hbad HFT HW HWL;(go_wp2_with fail);refine (HW2.out _).mono ?_;rintro e w5 ⟨rfl,hU5⟩;have HU2:=Hi (HU1.out.then hU5);have had:=HAD.out;clear hU5 HU1 cA HB;go_wp2;go_roundg (n-(i+1))
    · refine ⟨i+1,by omega,rfl,by first | rfl | go_num,_,rfl,Hi ?_,Hi (fun q hq=>?_),HU2⟩
      · rw [HTS.out,ZF,← zI,← HD.out,← HX.out];simp [xz]
      · rw [HTS.out] at hq;rcases List.mem_append.1 hq with hq | hq
        · exact HT.out q hq
        · rw [List.mem_singleton.1 hq]; exact HFT2.out
    · omega
  · have hcz : ¬ (i:Int)<(n:Int):=(by omega);obtain rfl:i=n:=(by omega);have hft : ∀ r∈l,r.Fits:=(by have:=HT.out; rwa [← HN.out,List.take_length] at this);have hdv:dv=zg (xz l):=(by have:=HD.out; rwa [← HN.out,List.take_length] at this);have hdl:=Jh l;rw [HN.out] at hdl;have hAt : ∀ z,Upd [] wr z→RecsAt z (.slice a i cap) l:=fun z hz=>HA.out.upd (HU.out.then hz);have HL1:=Hi (fun z (hz:Upd [] wr z)=>VL s l _ z (by omega) (hAt z hz) hft (by rw [HN.out]; omega));have HL2:=Hi (fun z (hz:Upd [] wr z)=>zbP s l _ z (by omega) (hAt z hz) hft (by rw [HN.out]; omega));have HDR:=Hi (fun z (hz:Upd [] wr z)=>zaC s l _ z (by omega) (hAt z hz) hft (by rw [HN.out]; omega));have HEW:=Hi (fun z=>WJ i (xz l).length s.size z (by omega) (by omega) (by omega));rw [HN.out] at HDR;have hdz:dv.size=(xz l).length:=(by rw [hdv,zk]);rw [← hdv,← hdz] at HDR;rw [← hdz] at HEW hdl;have hez:(zg (kF i dv.size s.size)).size=22:=(by rw [zk,Xy]);generalize zg (kF i dv.size s.size)=EE at *;have HAD:=Hi (fun w=>run_string_add_sum (P:=Tryz.prog) w dv EE (by omega));have HSS:=Hi (fun u x z (h1:SpAt z u (qd s l).1) (h2:SpAt z x (qd s l).1) (h:(qd s l).1.length≤1000000)=>zbS (qd s l).1 u x z h1 h2 h);have HLN:Hid ((qd s l).1.length≤1000000):=Hi (by have:=zeC s l; rw [HN.out] at this; omega);generalize qd s l=LP at *;obtain ⟨sp,why⟩:=LP;dsimp only at HL1 HL2 HSS HLN;clear hft hdv hdz HF H HA hAt HD HT;(go_wp2_with fail);refine (HL1.out _ (Upd.refl _ _)).mono ?_;rintro e w2 ⟨⟨u1,rfl,hr1⟩,hu1⟩;(go_wp2_with fail);refine (HL2.out _ hu1).mono ?_;rintro e w3 ⟨⟨u2,rfl,hr2⟩,hu2⟩;have S1:=Hi (Row.spAt (hr1.upd hu2 (by simp)));have S2:=Hi (Row.spAt hr2);have U3:=Hi (hu1.then hu2);clear hr1 hr2 hu1 hu2 HL1 HL2;(go_wp2_with fail);refine (HEW.out _).mono ?_;rintro e w4 ⟨rfl,hu4⟩;have HS:=Hi (HSS.out u1 u2 w4 (S1.out.upd hu4) (S2.out.upd hu4) HLN.out);have U4:=Hi (U3.out.then hu4);clear hu4 HEW HSS S1 S2 U3;(go_wp2_with fail);refine HS.out.mono ?_;rintro e w5 ⟨rfl,hu5⟩;have U5:=Hi (U4.out.then hu5);clear hu5 U4 HS;(go_wp2_with fail);refine (HDR.out _ U5.out).mono ?_;rintro e w6 ⟨rfl,hu6⟩;have U6:=Hi (U5.out.then hu6);have had:=HAD.out;clear hu6 U5 HDR;(go_wp2_with fail);refine (HLV.out _).mono ?_;rintro e w7 ⟨rfl,hu7⟩;go_wp2;go_ret;exact ⟨by first | rfl | simp,HU.out.then (U6.out.then hu7)⟩
end Go.Proofs.YtfkenhihcmmgkaaGreatDoor
