/- Package lens: fill: its walk. -/
import Derived.Test.YtfkenhihcmmgkaaGreatDoorQBH
import Derived.Sort.Grow
import Derived.Shelf.SlSortCmp.NoneTotal
set_option linter.unusedVariables false
set_option linter.unusedSimpArgs false
set_option linter.unusedSectionVars false
set_option maxRecDepth 100000
set_option maxHeartbeats 12800000
namespace Go.Proofs.YtfkenhihcmmgkaaGreatDoor
open Go.RowKit
theorem zkp (w:World) (cs:Array Value) (t:TypeId) (p:Value) (e:TypeId) (hp:p.oneCell'=true) : ∀ j u,[p][j]? =some u→((w.alloc (.cells cs t)).alloc (.cells #[p] e)).cell? ((⟨w.heap.size+1,0,none⟩:Addr).add j)=some u:=zjl w cs t p e hp
theorem OwnC.base {w0 w1 w:World} {v:Value} {xs:List Value} (h:OwnC w1 w v xs) (hs:w0.heap.size≤w1.heap.size):OwnC w0 w v xs:=⟨h.1,fun k hk=>Nat.le_trans hs (h.2 k hk)⟩
theorem zh6 {w w':World} {ps:List Value} {many:List Int} {u fp:List Nat} (h:CoinsAt w ps (lvs many u)) (hU:Upd fp w w') (hf : ∀ b cs,Blk w b cs 386→b∉fp):CoinsAt w' ps (lvs many u) :=
 ⟨h.1,fun i p c h1 h2=>by
  have h3:=h.2 i p c h1 h2;obtain ⟨s,_,rfl⟩ : ∃ s,s∈u∧Coin.leaf (yy (many.getD s 0)) s=c:=by
   have:=List.mem_of_getElem? h2;unfold lvs at this;exact List.mem_map.1 this
  obtain ⟨b,rfl,hB⟩:=h3;exact ⟨b,rfl,hB.upd hU (hf b _ hB)⟩⟩
theorem Wc {u:List Nat} {n i:Nat} (h : ∀ s∈u,s<n) (hi:i<u.length):u[i]<n:=h _ (List.getElem_mem hi)
theorem zgh (many:List Int) (u:List Nat) (L n cap ob k cu cm:Nat) (au am:Option Addr) (w:World) (hB:Blk w ob (zl (List.replicate n 0)) 3)
 (hus : ∀ i (h:i<u.length),∃ b o,au=some ⟨b,o,none⟩∧w.cell? ⟨b,o+i,none⟩=some (.int .i64 (u[i]:Nat))) (hI:IntsIn w am n many) (hn:n≤300) (hL:L≤15) (hk:u.length=k) (h2:2≤k) (hun:k≤n) (hlt : ∀ s∈u,s<n)
 (hrow:2*k-2≤(yb (lvs many u) L).length) :
 Calls Tryz.prog 327 #[.slice (some ⟨ob,0,none⟩) n cap,.slice au k cu,.slice am n cm,.int .i64 (L:Nat)] w fun e w'=>e = .returned (.tuple #[])∧Blk w' ob (zl ((List.range n).map fun s=>qF many u L s)) 3∧Upd [ob] w w':=by
 obtain ⟨i0,hi,hz0,hz1,hz2⟩:=info_parts Xz;have HBo:=Hi hB;have HUS:=Hi hus;have HI:=Hi hI;have HLT:=Hi hlt;have HK:=Hi hk;have HROW:=Hi hrow;have HLN:=Hi hI.len;clear hB hus hI hlt hk hrow;have hLz:(L:Int)≤15:=by omega
 go_enter Tryz.func327,Tryz.ntmps327;go_wp2;go_loopg [8,17] 1000 (fun gg s8 s17 wr => ∃ (i:Nat) (ps:List Value),i≤k∧gg=1000-i∧s17 = .int .i64 (i:Nat)∧Hid (OwnC w wr s8 ps)∧Hid (CoinsAt wr ps (lvs many (u.take i)))∧Hid (ps.length=i)∧Hid (Upd [] w wr)∧Hid (Blk wr w.heap.size [.slice (some ⟨ob,0,none⟩) n cap] 57))
 case atStart=>exact ⟨0,[],by omega,rfl,rfl,Hi (OwnC.nil _ _),Hi (CoinsAt.nil _),Hi rfl,Hi ((Upd.refl _ _).alloc _),Hi (Blk.new w _ _)⟩
 case round =>
  obtain ⟨i,ps,hik,rfl,rfl,HO,HC,HPL,HU,HX⟩:=hrel;by_cases hc:i<k
  · have hcz:(i:Int)<(k:Int):=(by omega);have hiu:i<u.length:=(by rw [HK.out]; exact hc);obtain ⟨b,o,rfl,hc1⟩:=HUS.out i hiu;have hsn:u[i]<n:=Wc HLT.out hiu;have hsm:u[i]<many.length:=(by rw [HLN.out]; exact hsn);obtain ⟨bm,om,rfl,hc2,r1,r2⟩:=(HI.out.pure HU.out).cell u[i] hsm;have hc3:=(HU.out.at (jk hc1) (by simp) (o+i)).trans hc1;have HLT2:Hid (lvs many (u.take (i+1))=lvs many (u.take i)++[.leaf (yy many[u[i]]) u[i]]):=Hi (by rw [zhk many u i hiu]; simp [List.getD_eq_getElem?_getD,hsm]);generalize many[u[i]]=m at *;generalize u[i]=s at *;have hNle:=zbg m;have HNR:=Hi (fun w=>YG m w);generalize yy m=N at *;have hw1:IntKind.i64.wrap ((i:Int)+1)=((i+1:Nat):Int):=(by rw [IntWalk.i64_in _ (by omega)]; rfl);have hsz:(s:Int)<(n:Int):=(by omega);obtain ⟨va,vc,rfl⟩:=HO.out.form;have hpl:=HPL.out;rw [hpl] at HO ⊢;clear hiu hsm hc1 hpl;(go_wp2_with fail);refine (HNR.out _).mono ?_;rintro e w' ⟨rfl,rfl⟩;have hRz:=(HO.out.1.alloc (.cells #[.int .i64 (N:Nat),.int .i64 (s:Nat),.slice none 0 0] 386)).alloc (.cells #[.pointer (some ⟨wr.heap.size,0,none⟩)] 384);rw [HPL.out] at hRz;(go_wp2_with (at_builtin; refine zH _ rfl _ _ 383 rfl 384 i0 _ 1 8 Tryz.underlying383 hi hz0 hz1 hz2 rfl (by omega) (.slice va i vc) i _ rfl hRz ⟨wr.heap.size+1,0,none⟩ 1 1 [.pointer (some ⟨wr.heap.size,0,none⟩)] rfl rfl (zkp _ _ _ _ _ rfl) (by simp [Value.oneCell']) (by unfold maxLen; omega) (by omega) ?_));intro v4 w4 hR4 hU4 hT4;have hmm:Upd [] wr ((wr.alloc (.cells #[.int .i64 (N:Nat),.int .i64 (s:Nat),.slice none 0 0] 386)).alloc (.cells #[.pointer (some ⟨wr.heap.size,0,none⟩)] 384)):=((Upd.refl _ _).alloc _).alloc _;have hap:=(HO.out.upd hmm).app (HU.out.then hmm) (ys:=[.pointer (some ⟨wr.heap.size,0,none⟩)]) (by rw [HPL.out]; exact hR4) hU4 hT4;have hnb:Blk w4 wr.heap.size [.int .i64 (N:Nat),.int .i64 (s:Nat),.slice none 0 0] 386:=((Blk.new wr [.int .i64 (N:Nat),.int .i64 (s:Nat),.slice none 0 0] 386).alloc (.cells #[.pointer (some ⟨wr.heap.size,0,none⟩)] 384)).upd hU4 (fun hm=>by have:=HO.out.1.lt _ (by simpa using hm); omega);have hcs:CoinsAt w4 (ps++[.pointer (some ⟨wr.heap.size,0,none⟩)]) (lvs many (u.take (i+1))):=by
     rw [HLT2.out];exact (zh6 (HC.out.upd hmm) hU4 (fun q cs hq hm=>((HO.out.1.alloc (.cells #[.int .i64 (N:Nat),.int .i64 (s:Nat),.slice none 0 0] 386)).alloc (.cells #[.pointer (some ⟨wr.heap.size,0,none⟩)] 384)).neB hq (by decide) (by simpa using hm))).snoc ⟨_,rfl,hnb⟩
    have hx4:=(HX.out.upd hmm (by simp)).upd hU4 (fun hm=>(HO.out.1.neB HX.out (by decide)) (by simpa using hm));have HAP:=Hi hap;have HCS:=Hi hcs;have HX4:=Hi hx4;clear hap hcs hx4 hnb hmm hR4 hU4 hT4 hRz;go_wp2;go_roundg (1000-(i+1))
    · exact ⟨i+1,_,by omega,rfl,by first | rfl | go_num,Hi HAP.out.1,HCS,Hi (by rw [List.length_append,HPL.out]; rfl),Hi HAP.out.2,HX4⟩
    · omega
  · have hcz : ¬ (i:Int)<(k:Int):=(by omega);obtain rfl:i=k:=(by omega);have HC1:Hid (CoinsAt wr ps (lvs many u)):=Hi (by have:=HC.out; rwa [List.take_of_length_le (by rw [HK.out]; exact Nat.le_refl _)] at this);clear HC;have HU1:=HU;have HX1:=HX;have HO1:=HO;clear HU HX HO;have HRL:Hid (∀ j,(yb (lvs many u) j).length≤2*i):=Hi (fun j=>by have:=zaV (lvs many u) j; rw [zdE,HK.out] at this; exact this);have HRW:Hid (∀ j,j<L → ∀ c∈yb (lvs many u) j,c.w≤70368744177664):=Hi (fun j hj c hcm=>by
     have h1:=zch (lvs many u) _ (zkB many u) j c hcm;have h3:2^j≤2^15:=Nat.pow_le_pow_right (by omega) (by omega);have h4:=Nat.mul_le_mul_left 1073741824 h3;omega)
    generalize hlv:lvs many u=lv at *;go_wp2;obtain ⟨wo,hwo⟩ : ∃ wo:World,wo=wr:=⟨_,rfl⟩;subst hwo;go_loopg [11,34] 1000 (fun gg s11 s34 wr => ∃ (j:Nat) (qs:List Value),j≤L∧gg=1000-j∧s34 = .int .i64 (j:Nat)∧Hid (OwnC w wr s11 qs)∧Hid (CoinsAt wr qs (yb lv j))∧Hid (Upd [] wo wr))
    case atStart=>exact ⟨0,[],by omega,rfl,rfl,Hi (OwnC.nil _ _),Hi (CoinsAt.nil _),Hi (Upd.refl _ _)⟩
    case round =>
     obtain ⟨j,qs,hjL,rfl,rfl,HO,HC,HU⟩:=hrel;have HQL:Hid (qs.length=(yb lv j).length):=Hi HC.out.1;by_cases hc2:j<L
     · have hcz2:(j:Int)<(L:Int):=(by omega);have hw1:IntKind.i64.wrap ((j:Int)+1)=((j+1:Nat):Int):=(by rw [IntWalk.i64_in _ (by omega)]; rfl);have HP:=Hi (zcw _ qs _ _ HO.out.1 HC.out (by have h1:=HRL.out j; have h3:=HQL.out; omega) (HRW.out j hc2));(go_wp2_with fail);refine HP.out.mono ?_;rintro e w1 ⟨v1,q1,rfl,hO1,hC1,hU1⟩;have HM:=Hi (zc7 _ v1 ps q1 lv _ w1 ((HO1.out.slC.upd HU.out).upd hU1) hO1.slC ((HC1.out.upd HU.out).upd hU1) hC1 (by have:=HPL.out; omega) (by rw [hC1.1,xc]; have:=HRL.out j; omega) (by have:=HPL.out; omega));have HU2:=Hi (HU.out.then hU1);clear hO1 hC1 hU1;(go_wp2_with fail);refine HM.out.mono ?_;rintro e w2 ⟨v2,q2,rfl,hO2,hC2,hU2⟩;have HO2:=Hi (hO2.base (w0:=w) (by have h1:=HU1.out.size; have h3:=HU2.out.size; omega));have HC2:=Hi hC2;have HU3:=Hi (HU2.out.then hU2);clear hO2 hC2 hU2 HP HM;go_wp2;go_roundg (1000-(j+1))
       · exact ⟨j+1,q2,by omega,rfl,by first | rfl | go_num,HO2,HC2,HU3⟩
       · omega
     · have hcz2 : ¬ (j:Int)<(L:Int):=(by omega);obtain rfl:j=L:=(by omega);obtain ⟨M,hM⟩ : ∃ M:Nat,M=2*i-2:=⟨_,rfl⟩;have hMz:2*(i:Int)-2=(M:Int):=(by omega);have hMq:M≤qs.length:=(by rw [HQL.out,hM]; exact HROW.out);obtain ⟨g,c3,rfl,hg,hle⟩:=HO.out.1.form' (by omega);obtain ⟨Q,hQ⟩ : ∃ Q,qs.length=Q:=⟨_,rfl⟩;rw [hQ] at HO hMq hle HQL;have hMc:(M:Int)≤(c3:Int):=(by omega);have HMI:=Hi hM;have hQQ:=Hi hQ;clear hQ hM;rw [hQQ.out];have HEND:Hid (jb (List.replicate n 0) ((yb lv j).take M)=(List.range n).map fun s=>qF many u j s):=Hi (by
        have:=zgO many u j n;rw [hlv,HK.out,← HMI.out] at this;exact this)
       have HBD:Hid (∀ m (h:m<(yb lv j).length),jd ((yb lv j).take m)+(yb lv j)[m].many≤5000):=Hi (fun m h=>by
        have h1:=zfN (yb lv j) m h;have h3:=Ki lv j;have h4:jd lv=i:=(by rw [← hlv,zgq,HK.out]);rw [h4] at h3;have h5:i*j≤300*15:=Nat.mul_le_mul (by omega) (by omega);omega)
       have HSY:Hid (∀ c∈yb lv j,c.syms n):=Hi (Zf lv n (by rw [← hlv]; exact zhP many u n HLT.out) j);clear hlv;go_wp2;have hF3:Blk (wr.alloc (.cells #[.func (.func 346) #[] #[.pointer (some ⟨w.heap.size,0,none⟩),.pointer (some ⟨wr.heap.size,0,none⟩)]] 390)) wr.heap.size [.func (.func 346) #[] #[.pointer (some ⟨w.heap.size,0,none⟩),.pointer (some ⟨wr.heap.size,0,none⟩)]] 390:=Blk.new wr _ _;have hU3:Upd [] w (wr.alloc (.cells #[.func (.func 346) #[] #[.pointer (some ⟨w.heap.size,0,none⟩),.pointer (some ⟨wr.heap.size,0,none⟩)]] 390)):=(HU1.out.then HU.out).alloc _;have hX3:=(HX1.out.upd HU.out (by simp)).alloc (.cells #[.func (.func 346) #[] #[.pointer (some ⟨w.heap.size,0,none⟩),.pointer (some ⟨wr.heap.size,0,none⟩)]] 390);have hR3:=HO.out.1.alloc (.cells #[.func (.func 346) #[] #[.pointer (some ⟨w.heap.size,0,none⟩),.pointer (some ⟨wr.heap.size,0,none⟩)]] 390);rw [hQQ.out] at hR3;have hC3:=HC.out.upd ((Upd.refl [] wr).alloc (.cells #[.func (.func 346) #[] #[.pointer (some ⟨w.heap.size,0,none⟩),.pointer (some ⟨wr.heap.size,0,none⟩)]] 390));generalize wr.alloc (.cells #[.func (.func 346) #[] #[.pointer (some ⟨w.heap.size,0,none⟩),.pointer (some ⟨wr.heap.size,0,none⟩)]] 390)=w3 at *;generalize wr.heap.size=bc at *;have hB3:=HBo.out.upd hU3 (by simp);have HF3:=Hi hF3;have HU3:=Hi hU3;have HX3:=Hi hX3;have HR3:=Hi hR3;have HC3:=Hi hC3;have HB3:=Hi hB3;have HN1:=Hi (hX3.neT hB3 (by decide));have HN2:=Hi (hF3.neT hB3 (by decide));have HN3:Hid (g≠ob):=Hi (fun e=>hR3.neB hB3 (by decide) (by rw [e]; rfl));clear hF3 hU3 hX3 hR3 hC3 hB3 hg;go_loopg [49] 1000 (fun gg s49 wr => ∃ m:Nat,m≤M∧gg=1000-m∧s49 = .int .i64 (m:Nat)∧Hid (Blk wr ob (zl (jb (List.replicate n 0) ((yb lv j).take m))) 3)∧Hid (Upd [ob] w3 wr))
       case atStart=>exact ⟨0,by omega,rfl,rfl,HB3,Hi (Upd.refl _ _)⟩
       case round =>
        obtain ⟨m,hmM,rfl,rfl,HBm,HUm⟩:=hrel;by_cases hc3:m<M
        · have hcz3:(m:Int)<(M:Int):=(by omega);have hw1:IntKind.i64.wrap ((m:Int)+1)=((m+1:Nat):Int):=(by rw [IntWalk.i64_in _ (by omega)]; rfl);have hmq:m<qs.length:=(by rw [hQQ.out]; omega);have hmr:m<(yb lv j).length:=(by rw [← HC3.out.1]; exact hmq);have hcm:=(HUm.out.at (HR3.out.lt g rfl) (by simpa using HN3.out) m).trans (HR3.out.cell m (List.getElem?_eq_getElem hmq));have f1:=(HF3.out.upd HUm.out (by simpa using HN2.out)).cell 0 rfl;have HCT:=Hi (Zg n cap w.heap.size bc ob (yb lv j)[m] qs[m] _ _ ((HC3.out.2 m _ _ (List.getElem?_eq_getElem hmq) (List.getElem?_eq_getElem hmr)).keep (KeepC.of_ints HB3.out HUm.out)) (HSY.out _ (List.getElem_mem hmr)) (by rw [Jn,List.length_replicate]) HBm.out
           (HX3.out.upd HUm.out (by simpa using HN1.out)) (HF3.out.upd HUm.out (by simpa using HN2.out)) (fun s=>by
            have h1:=za1 ((yb lv j).take m) (List.replicate n 0) s;have h3:(List.replicate n 0).getD s 0=0:=by
             by_cases h:s<n
             · simp [List.getD_eq_getElem?_getD,h]
             · simp [List.getD_eq_getElem?_getD,h]
            have h4:=HBD.out m hmr;omega))
          have HST:Hid (jb (List.replicate n 0) ((yb lv j).take (m+1))=qE (jb (List.replicate n 0) ((yb lv j).take m)) (yb lv j)[m]):=Hi (by rw [List.take_succ_eq_append_getElem hmr,zck]);generalize qs[m]=p at *;generalize (yb lv j)[m]=c at *;clear hmq hmr;(go_wp2_with fail);refine HCT.out.mono ?_;rintro e w4 ⟨rfl,hB4,hU4⟩;rw [← HST.out] at hB4;have HB4:=Hi hB4;have HU4:=Hi (HUm.out.then hU4);clear hB4 hU4 HCT;go_wp2;go_roundg (1000-(m+1))
          · exact ⟨m+1,by omega,rfl,by first | rfl | go_num,HB4,HU4⟩
          · omega
        · have hcz3 : ¬ (m:Int)<(M:Int):=(by omega);obtain rfl:m=M:=(by omega);go_wp2
          go_end0
          exact ⟨rfl,by rw [← HEND.out]; exact HBm.out,(HU3.out.mono (fp':=[ob]) (fun q hq=>by simp at hq)).then HUm.out⟩
theorem Qn {W w:World} {p:Addr} {v:Value} (h : ∃ os,w=Go.Sort.grow W.drew os) (hc:W.cell? p=some v):w.cell? p=some v:=by
 obtain ⟨os,rfl⟩:=h;exact (Go.Sort.cell?_grow W.drew os p (World.block_lt_of_cell? W _ hc)).trans hc
theorem zf4 {W w:World} {o:Obj} (h : ∃ os,w=Go.Sort.grow W.drew os) : ∃ os,w.alloc o=Go.Sort.grow W.drew os:=by
 obtain ⟨os,rfl⟩:=h;exact ⟨os ++ #[o],by rw [Go.Sort.alloc_eq_grow,Go.Sort.grow_grow]⟩
def cfN (many:List Int) (x y:Nat):Int:=orN (QX (yy (many.getD x 0)) (yy (many.getD y 0))) (QX x y)
theorem zaG (many:List Int) (a:Option Addr) (n cap bx x y:Nat) (W:World) (hb:W.cell? ⟨bx,0,none⟩=some (.slice a n cap)) (hI:IntsIn W a n many) (hx:x<n) (hy:y<n) (hn:n≤1000000) :
 Calls Tryz.prog 330 #[.int .i64 (x:Nat),.int .i64 (y:Nat),.pointer (some ⟨bx,0,none⟩)] W fun e w'=>e = .returned (.int .i64 (cfN many x y)) ∧ ∃ q os,w'=Go.Sort.grow (W.drewN q) os:=by
 have hx1:x<many.length:=by rw [hI.len]; exact hx
 have hy1:y<many.length:=by rw [hI.len]; exact hy
 obtain ⟨b,off,rfl,hc1,r1,r2⟩:=hI.cell x hx1;obtain ⟨b',off',hbo,hc2,r3,r4⟩:=hI.cell y hy1;injection hbo with hbo;injection hbo with e1 e2;subst e1 e2;have HCF:Hid (cfN many x y=orN (QX (yy many[x]) (yy many[y])) (QX x y)):=Hi (by unfold cfN; simp [List.getD_eq_getElem?_getD,hx1,hy1]);generalize many[x]=v1 at *;generalize many[y]=v2 at *;have HN1:=Hi (fun w=>YG v1 w);have HN2:=Hi (fun w=>YG v2 w);generalize yy v1=N1 at *;generalize yy v2=N2 at *;have HC1:=Hi (fun w=>ZH N1 N2 w);have HC2:=Hi (fun w=>ZH x y w);have hxz:(x:Int)<(n:Int):=by omega
 have hyz:(y:Int)<(n:Int):=by omega
 clear hI hx1 hy1;go_enter Tryz.func330,Tryz.ntmps330;go_wp2;refine wp_region_held_drew (S:=fun w' => ∃ os,w'=Go.Sort.grow W.drew os) (by kernel_rfl) ⟨#[],by rw [Go.Sort.grow_empty]⟩ (fun hHeld=>hdN ?_);refine hdT 0 (some 6) ?_ (hy:=by intro w hSw; have q0:=Qn hSw hb; go_simp; try with_reducible rfl); refine hdT 1 (some 7) ?_;refine hdT 2 (some 8) ?_; refine hdT 3 (some 9) ?_ (hy:=by intro w hSw; have q0:=Qn hSw hc1; go_simp; try with_reducible rfl);refine hdT 5 (some 11) ?_ (hy:=by intro w hSw; have q0:=Qn hSw hb; go_simp; try with_reducible rfl); refine hdT 6 (some 12) ?_;refine hdT 7 (some 13) ?_; refine hdT 8 (some 14) ?_ (hy:=by intro w hSw; have q0:=Qn hSw hc2; go_simp; try with_reducible rfl);refine hdT 11 (some 17) ?_; refine hdT 12 (some 18) ?_;refine hdO 4 (fun K hK=>?_);go_simp;refine (HN1.out _).mono ?_;rintro e z ⟨rfl,rfl⟩;go_wp2;refine hK.out _ _ hHeld (fun hHeld=>hdN ?_);clear hK K;refine hdO 9 (fun K hK=>?_);go_simp;refine (HN2.out _).mono ?_;rintro e z ⟨rfl,rfl⟩;go_wp2;refine hK.out _ _ hHeld (fun hHeld=>hdN ?_);clear hK K;refine hdO 10 (fun K hK=>?_);go_simp;refine (HC1.out _).mono ?_;rintro e z ⟨rfl,rfl⟩;go_wp2;refine hK.out _ _ hHeld (fun hHeld=>hdN ?_);clear hK K;refine hdO 13 (fun K hK=>?_);go_simp;refine (HC2.out _).mono ?_;rintro e z ⟨rfl,rfl⟩;go_wp2;refine hK.out _ _ hHeld (fun hHeld=>hdN ?_);clear hK K;refine hdO 14 (fun K hK=>?_);go_simp;skip;go_wp2;refine hK.out _ _ (zf4 hHeld) (fun hHeld=>hdN ?_);clear hK K;refine hdO 15 (fun K hK=>?_);go_simp;refine (zj1 _ _ _ _ ((Blk.new W [.int .i64 (QX N1 N2),.int .i64 (QX x y)] 3).drew.cell 0 rfl) ((Blk.new W [.int .i64 (QX N1 N2),.int .i64 (QX x y)] 3).drew.cell 1 rfl)).mono ?_;rintro e z ⟨rfl,rfl⟩;go_wp2;refine hK.out _ _ hHeld (fun hHeld=>hdN ?_);clear hK K;refine hdT 16 (some 5) ?_;refine wpAnyH_done (by kernel_rfl) ?_ 0;go_wp2;go_ret;obtain ⟨os,hos⟩:=hHeld;exact ⟨by rw [HCF.out]; rfl,1,os,hos⟩
end Go.Proofs.YtfkenhihcmmgkaaGreatDoor
namespace Go.Proofs.YtfkenhihcmmgkaaGreatDoor
open Go.RowKit
theorem QR {α:Type} [Inhabited α] (enc:α→Value) (w:World) (blk off m:Nat) (d:Array α) (os:Array Obj):Upd [blk] w (sortWorld enc w blk off m d os):=by
 unfold sortWorld;refine ⟨rfl,rfl,rfl,by simp,fun k hk hn=>?_⟩;have hb:blk≠k:=fun e=>hn (by simp [e]);rw [Sort.heap_grow_old _ _ (by simpa using hk)];simp [Sort.putRow,Sort.mapBlock,Array.getElem?_modify,hb]
theorem zfX {α:Type} [Inhabited α] (enc:α→Value) (w:World) (blk m k cap:Nat) (e:TypeId) (d:List α) (xs:List Value) (os:Array Obj) (hd:d.length=k) (hR:Row w e 1 (.slice (some ⟨blk,0,none⟩) k cap) k xs) :
 Row (sortWorld enc w blk 0 m d.toArray os) e 1 (.slice (some ⟨blk,0,none⟩) k cap) k (d.map enc):=by
 obtain ⟨h1,h2⟩:=hR;rcases h2 with ⟨e1,_⟩ | ⟨g,c,cur,e1,hb,hh,hc,hm,hs,ht⟩
 · cases e1
 · injection e1 with e1 e2 e3;injection e1 with e1;injection e1 with e1 e4;subst e1 e3;have hlt:blk<w.heap.size:=(Array.getElem?_eq_some_iff.1 hh).1;refine ⟨by simp [hd],.inr ⟨blk,cap,Sort.putCells enc 0 d.toArray cur,rfl,Nat.zero_le _,?_,hc,hm,by simp [Sort.putCells,hs],?_⟩⟩
   · unfold sortWorld;rw [Sort.heap_grow_old _ _ (by simpa using hlt)];simp [Sort.putRow,Sort.mapBlock,Array.getElem?_modify,Sort.ahead,hh,Sort.onCells]
   · apply List.ext_getElem?;intro i;rw [List.getElem?_take];by_cases hi:i<k
     · rw [if_pos (by omega)];have hic:i<cur.size:=(by omega);simp [Sort.putCells,hi,hd,hic,List.getElem?_eq_getElem (show i<d.length by omega)]
     · rw [if_neg (by omega),List.getElem?_eq_none (by simp; omega)]
end Go.Proofs.YtfkenhihcmmgkaaGreatDoor
namespace Go.Proofs
open Go.Shelf
def YtfkenhihcmmgkaaGreatDoor.sortL_ren:Go.Shelf.Ren:=⟨fun | 6=>329 | 15=>78 | 14=>350 | 28=>138 | 29=>139 | 20=>354 | 21=>355 | 22=>356 | 23=>357 | 24=>358 | 25=>359 | 26=>360 | 27=>361 | 46=>363 | 47=>196 | 48=>197 | 49=>364 | 50=>365 | 57=>366 | n=>n,fun | 22=>57 | 24=>3 | 25=>224 | 3=>3 | 39=>146 | 0=>0 | 53=>24 | 55=>59 | 4=>4 | 46=>192 | 45=>191 | 50=>196 | 5=>5 | 9=>9 | 66=>251 | 70=>255 | 76=>300 | 77=>301 | n=>n,fun | n=>n⟩
theorem YtfkenhihcmmgkaaGreatDoor.sortL:Go.Proofs.SlLaysF.n6 Tryz.prog YtfkenhihcmmgkaaGreatDoor.sortL_ren := {
 mixed:=by kernel_rfl
 f6:=⟨Tryz.f329.name,by decide,Tryz.func329.trans (congrArg some (by kernel_rfl))⟩
 f14:=⟨Tryz.f350.name,by decide,Tryz.func350.trans (congrArg some (by kernel_rfl))⟩
 f15:=Tryz.func78.trans (congrArg some (by kernel_rfl))
 f20:=⟨Tryz.f354.name,by decide,Tryz.func354.trans (congrArg some (by kernel_rfl))⟩
 f21:=⟨Tryz.f355.name,by decide,Tryz.func355.trans (congrArg some (by kernel_rfl))⟩
 f22:=⟨Tryz.f356.name,by decide,Tryz.func356.trans (congrArg some (by kernel_rfl))⟩
 f23:=⟨Tryz.f357.name,by decide,Tryz.func357.trans (congrArg some (by kernel_rfl))⟩
 f24:=⟨Tryz.f358.name,by decide,Tryz.func358.trans (congrArg some (by kernel_rfl))⟩
 f25:=⟨Tryz.f359.name,by decide,Tryz.func359.trans (congrArg some (by kernel_rfl))⟩
 f26:=⟨Tryz.f360.name,by decide,Tryz.func360.trans (congrArg some (by kernel_rfl))⟩
 f27:=⟨Tryz.f361.name,by decide,Tryz.func361.trans (congrArg some (by kernel_rfl))⟩
 f28:=Tryz.func138.trans (congrArg some (by kernel_rfl))
 f29:=Tryz.func139.trans (congrArg some (by kernel_rfl))
 f46:=⟨Tryz.f363.name,by decide,Tryz.func363.trans (congrArg some (by kernel_rfl))⟩
 f47:=Tryz.func196.trans (congrArg some (by kernel_rfl))
 f48:=Tryz.func197.trans (congrArg some (by kernel_rfl))
 f49:=⟨Tryz.f364.name,by decide,Tryz.func364.trans (congrArg some (by kernel_rfl))⟩
 f50:=⟨Tryz.f365.name,by decide,Tryz.func365.trans (congrArg some (by kernel_rfl))⟩
 f57:=⟨Tryz.f366.name,by decide,Tryz.func366.trans (congrArg some (by kernel_rfl))⟩
 t0:=Tryz.underlying0
 a0:=Tryz.isAgg0
 z0:=Tryz.sizeOf0
 v0:=Tryz.zeroValue0
 t3:=Tryz.underlying3
 a3:=Tryz.isAgg3
 z3:=Tryz.sizeOf3
 v3:=Tryz.zeroValue3
 t4:=Tryz.underlying4
 a4:=Tryz.isAgg4
 z4:=Tryz.sizeOf4
 v4:=Tryz.zeroValue4
 t5:=Tryz.underlying5
 a5:=Tryz.isAgg5
 z5:=Tryz.sizeOf5
 v5:=Tryz.zeroValue5
 t9:=Tryz.underlying9
 a9:=Tryz.isAgg9
 z9:=Tryz.sizeOf9
 v9:=Tryz.zeroValue9
 t22:=Tryz.underlying57
 a22:=Tryz.isAgg57
 z22:=Tryz.sizeOf57
 v22:=Tryz.zeroValue57
 a24:=Tryz.isAgg3
 z24:=Tryz.sizeOf3
 t25:=Tryz.underlying224
 a25:=Tryz.isAgg224
 z25:=Tryz.sizeOf224
 v25:=Tryz.zeroValue224
 t39:=Tryz.underlying146
 a39:=Tryz.isAgg146
 z39:=Tryz.sizeOf146
 v39:=Tryz.zeroValue146
 t45:=Tryz.underlying191
 a45:=Tryz.isAgg191
 z45:=Tryz.sizeOf191
 v45:=Tryz.zeroValue191
 t46:=Tryz.underlying192
 a46:=Tryz.isAgg192
 z46:=Tryz.sizeOf192
 v46:=Tryz.zeroValue192
 t50:=Tryz.underlying196
 a50:=Tryz.isAgg196
 z50:=Tryz.sizeOf196
 v50:=Tryz.zeroValue196
 t53:=Tryz.underlying24
 a53:=Tryz.isAgg24
 z53:=Tryz.sizeOf24
 v53:=Tryz.zeroValue24
 t55:=Tryz.underlying59
 a55:=Tryz.isAgg59
 z55:=Tryz.sizeOf59
 v55:=Tryz.zeroValue59
 t66:=Tryz.underlying251
 a66:=Tryz.isAgg251
 z66:=Tryz.sizeOf251
 v66:=Tryz.zeroValue251
 t70:=Tryz.underlying255
 a70:=Tryz.isAgg255
 z70:=Tryz.sizeOf255
 v70:=Tryz.zeroValue255
 t76:=Tryz.underlying300
 a76:=Tryz.isAgg300
 z76:=Tryz.sizeOf300
 v76:=Tryz.zeroValue300
 t77:=Tryz.underlying301
 a77:=Tryz.isAgg301
 z77:=Tryz.sizeOf301
 v77:=Tryz.zeroValue301 }
end Go.Proofs
namespace Go.Proofs.YtfkenhihcmmgkaaGreatDoor
open Go.RowKit
def xH (many:List Int) (n:Nat):List Nat:=(List.range n).filter fun i=>decide (0<many.getD i 0)
theorem zfJ (many:List Int) (n:Nat):xH many (n+1)=xH many n++if 0<many.getD n 0 then [n] else []:=by
 unfold xH;rw [List.range_succ,List.filter_append];by_cases h:0<many.getD n 0
 · rw [if_pos h,List.filter_cons_of_pos (by simpa using h)]; rfl
 · rw [if_neg h,List.filter_cons_of_neg (by simpa using h)]; rfl
theorem qe (many:List Int) (n i:Nat):i∈xH many n↔i<n∧0<many.getD i 0:=by
 unfold xH;rw [List.mem_filter,List.mem_range];simp
theorem zbl (many:List Int) (n:Nat):(xH many n).length≤n:=by
 have:=List.length_filter_le (fun i=>decide (0<many.getD i 0)) (List.range n);rw [List.length_range] at this;exact this
theorem zim (many:List Int) (x y:Nat):cfN many x y<0↔Ahead many x y:=by
 unfold cfN orN Ahead;rcases JD (yy (many.getD x 0)) (yy (many.getD y 0)) with ⟨h,e⟩ | ⟨h,e⟩ | ⟨h,e⟩
 · rw [e];rw [if_neg (by omega)];constructor
   · intro _; exact .inl h
   · intro _; omega
 · rw [e];rw [if_neg (by omega)];constructor
   · intro k; omega
   · intro k; omega
 · rw [e,if_pos rfl];rcases JD x y with ⟨h2,e2⟩ | ⟨h2,e2⟩ | ⟨h2,e2⟩<;>rw [e2]<;>constructor<;>intro k<;>omega
def cfF (many:List Int) (m:Nat) (x y:Fin (m+1)):Int:=cfN many x.1 y.1
theorem ltF (many:List Int) (m:Nat) (x y:Fin (m+1)):ltOf (cfF many m) x y=true↔Ahead many x.1 y.1:=by
 unfold ltOf cfF;rw [decide_eq_true_eq];exact zim many x.1 y.1
theorem qR (many:List Int) (m:Nat) (x y:Fin (m+1)):ltOf (cfF many m) x y=false ↔ ¬ Ahead many x.1 y.1:=by
 rw [← ltF];cases ltOf (cfF many m) x y<;>simp
theorem zfE {many:List Int} {a b:Nat} (h1 : ¬ Ahead many a b) (h2:a≠b):Ahead many b a:=by
 unfold Ahead at *;omega
theorem zkE (many:List Int) (m:Nat):Sort.SWO (ltOf (cfF many m)) where
 irrefl x:=by rw [qR]; exact Ahead.irrefl
 trans x y z h1 h2:=by rw [ltF] at *; exact h1.trans h2
 ntrans x y z h1 h2:=by
  rw [qR] at *;unfold Ahead at *;omega
theorem zkI (many:List Int) (m:Nat) (x y:Fin (m+1)) (h1:ltOf (cfF many m) x y=false) (h2:ltOf (cfF many m) y x=false):x=y:=by
 rw [qR] at *;apply Fin.ext;unfold Ahead at *;omega
theorem Zv (many:List Int) (m:Nat) (hm:many.length=m+1) (d:List (Fin (m+1))) (hd:d.map Fin.val=xH many (m+1)):IsUsed many many.length ((d.mergeSort fun x y=>!(ltOf (cfF many m)) y x).map Fin.val):=by
 have hp:=List.mergeSort_perm d (fun x y=>!(ltOf (cfF many m)) y x);constructor
 · intro i;rw [((hp.map Fin.val).mem_iff),hd,qe,hm]
 · have hs:=List.pairwise_mergeSort (le:=fun x y=>!(ltOf (cfF many m)) y x) (fun a b c h1 h2=>by
    simp only [Bool.not_eq_true'] at *;rw [qR] at *;unfold Ahead at *;omega) (fun a b=>by
    simp only [Bool.or_eq_true,Bool.not_eq_true'];rw [qR,qR];unfold Ahead;omega) d
   have hn:(d.mergeSort fun x y=>!(ltOf (cfF many m)) y x).Nodup:=by
    rw [hp.nodup_iff];have:(d.map Fin.val).Nodup:=(by rw [hd]; exact List.nodup_range.filter _);exact List.Pairwise.of_map Fin.val (fun a b h e=>h (by rw [e])) this
   rw [List.pairwise_map];refine (hs.and hn).imp ?_;intro a b ⟨h1,h2⟩;simp only [Bool.not_eq_true'] at h1;rw [qR] at h1;exact zfE h1 (fun e=>h2 (Fin.ext e.symm))
theorem zky (many:List Int) (a:Option Addr) (n cap bx:Nat) (w0 w:World) (v:Value) (hB:Blk w bx [.slice a n cap] 57) (hI:IntsIn w0 a n many) (hn:n≤1000000) (hu:Upd [] w0 w) (hO:OwnX w0 w 3 v (zl (xH many n))) :
 Calls Tryz.prog 329 #[v,.func (.func 330) #[] #[.pointer (some ⟨bx,0,none⟩)]] w fun e w'=>e = .returned (.tuple #[]) ∧ ∃ u,IsUsed many many.length u∧OwnX w0 w' 3 v (zl u)∧Upd [] w0 w':=by
 by_cases hd:xH many n=[]
 · rw [hd] at hO;obtain ⟨a',c',rfl⟩:=hO.form;have h:=AnyF.slices_SortFunc_none (P:=Tryz.prog) (ρ:=YtfkenhihcmmgkaaGreatDoor.sortL_ren) { YtfkenhihcmmgkaaGreatDoor.sortL with } a' c' (.func (.func 330) #[] #[.pointer (some ⟨bx,0,none⟩)]) w;change Calls Tryz.prog 329 _ _ _ at h;refine h.mono ?_;rintro e w' ⟨rfl,rfl⟩;refine ⟨rfl,[],⟨fun i=>?_,List.Pairwise.nil⟩,hO,hu⟩;have:=qe many n i;rw [hd,← hI.len] at this;exact this
 · obtain ⟨m,hm⟩ : ∃ m,n=m+1:=by
    cases n with
    | zero=>exact absurd rfl hd
    | succ m=>exact ⟨m,rfl⟩
   subst hm;have hlen:many.length=m+1:=hI.len;have hdl : ∃ d:List (Fin (m+1)),d.map Fin.val=xH many (m+1):=⟨(xH many (m+1)).attach.map fun x=>⟨x.1,((qe _ _ _).1 x.2).1⟩,by simp⟩;obtain ⟨d,hdm⟩:=hdl;have henc:zl (xH many (m+1))=d.map fun x:Fin (m+1)=>Value.int .i64 (x.1:Int):=(by rw [← hdm]; simp [zl]);have hk:d.length=(zl (xH many (m+1))).length:=(by rw [henc]; simp);have hpos:0<(zl (xH many (m+1))).length:=by
    rw [zq];cases h:xH many (m+1) with
    | nil=>exact absurd h hd
    | cons=>simp
   obtain ⟨blk,c',rfl,hbl,_⟩:=hO.1.form' hpos;have hblk:w0.heap.size≤blk:=hO.2 blk rfl;have hR:=hO.1;obtain ⟨K,hK⟩ : ∃ K,(zl (xH many (m+1))).length=K:=⟨_,rfl⟩;rw [hK] at hR hk hpos ⊢;rw [henc] at hR;have hne:bx≠blk:=fun e=>hR.neB hB (by decide) (by rw [e]; rfl);have ha : ∀ b off,a=some ⟨b,off,none⟩→b∉[blk]:=by
    intro b off e;obtain ⟨b',off',e',hc,_⟩:=hI.cell 0 (by omega);rw [e] at e';injection e' with e';injection e' with e1;have:=World.block_lt_of_cell? w0 _ hc;simp at this ⊢;omega
   have h:=Any.slices_SortFunc_total (P:=Tryz.prog) (ρ:=YtfkenhihcmmgkaaGreatDoor.sortL_ren) YtfkenhihcmmgkaaGreatDoor.sortL (fun x:Fin (m+1)=>Value.int .i64 (x.1:Int)) (fun x=>by simp [Value.oneCell']) (cfF many m) (zkE many m) 330 #[.pointer (some ⟨bx,0,none⟩)] blk 0 c' d.toArray w (enters_of Tryz.func330 (by kernel_rfl) rfl)
    (fun k os dk hs x y=>by
     refine (zaG many a (m+1) cap bx x.1 y.1 _ ((hB.upd (QR _ w blk 0 k dk os) (by simpa using hne)).cell 0 rfl) ((hI.pure hu).upd (QR _ w blk 0 k dk os) ha) x.2 y.2 hn).mono ?_;rintro e w' ⟨rfl,q,os',rfl⟩;exact ⟨rfl,q,os',rfl⟩)
    (fun j hj=>by
     have hj2:j<d.length:=(by simpa using hj);refine ⟨?_,by rw [Nat.zero_add]; exact hR.frz j⟩;rw [Nat.zero_add,hR.cell j (u := .int .i64 (d[j].1:Int)) (by simp [hj2])];rw [getElem!_pos _ j hj];simp)
    hbl (by have h1:=zbl many (m+1); rw [zq] at hK; simp; omega) (zkI many m)
   change Calls Tryz.prog 329 _ _ _ at h;rw [List.size_toArray,hk] at h;refine h.mono ?_;rintro e w' ⟨rfl,q,os,rfl⟩;refine ⟨rfl,(d.mergeSort fun x y=>!(ltOf (cfF many m)) y x).map Fin.val,Zv many m hlen d hdm,⟨?_,hO.2⟩,hu.trans (QR _ w blk 0 q _ os) (fun k hk => .inr (by simp at hk; omega))⟩;have hl2:(d.mergeSort fun x y=>!(ltOf (cfF many m)) y x).length=K:=(by rw [List.length_mergeSort,hk]);have hs:=zfX (fun x:Fin (m+1)=>Value.int .i64 (x.1:Int)) w blk q _ c' 3 (d.mergeSort fun x y=>!(ltOf (cfF many m)) y x) _ os hl2 hR;have e2:zl ((d.mergeSort fun x y=>!(ltOf (cfF many m)) y x).map Fin.val)=(d.mergeSort fun x y=>!(ltOf (cfF many m)) y x).map (fun x:Fin (m+1)=>Value.int .i64 (x.1:Int)):=(by simp [zl]);have e3:(zl ((d.mergeSort fun x y=>!(ltOf (cfF many m)) y x).map Fin.val)).length=K:=(by rw [e2,List.length_map,hl2]);rw [e2] at e3 ⊢;rw [e3];exact hs
theorem zkt (w:World) (v:Value) (e:TypeId) : ∀ j u,[v][j]? =some u→(w.alloc (.cells #[v] e)).cell? ((⟨w.heap.size,0,none⟩:Addr).add j)=some u:=World.news_of_block (cs := #[v]) (t:=e) (fr:=(0,0)) (heap_alloc_new _ _)
theorem WW (many:List Int) (a:Option Addr) (n cap:Nat) (w:World) (hI:IntsIn w a n many) (hn:n≤1000000) :
 Calls Tryz.prog 301 #[.slice a n cap] w fun e w' => ∃ v u,e = .returned v∧IsUsed many many.length u∧OwnX w w' 3 v (zl u)∧Upd [] w w':=by
 obtain ⟨i0,hi,hz0,hz1,hz2⟩:=info_parts qh;have HI:=Hi hI;have HSO:=Hi (fun bx w1 v h1 h2 h3=>zky many a n cap bx w w1 v h1 hI hn h2 h3);have HLN:=Hi hI.len;clear hI;go_enter Tryz.func301,Tryz.ntmps301;go_wp2;go_loopg [2,7] 1000000 (fun gg s2 s7 wr => ∃ i:Nat,i≤n∧gg=1000000-i∧s7 = .int .i64 (i:Nat)∧Hid (OwnX w wr 3 s2 (zl (xH many i)))∧Hid (Upd [] w wr)∧Hid (Blk wr w.heap.size [.slice a n cap] 57))
 case atStart=>exact ⟨0,by omega,rfl,rfl,Hi (OwnX.nil _ _ _),Hi (((Upd.refl _ _).alloc _)),Hi (Blk.new w _ _)⟩
 case round =>
  obtain ⟨i,hin,rfl,rfl,HO,HU,HB⟩:=hrel;by_cases hc:i<n
  · have hcz:(i:Int)<(n:Int):=(by omega);have hil:i<many.length:=(by rw [HLN.out]; exact hc);obtain ⟨b,off,rfl,hc1,r1,r2⟩:=(HI.out.pure HU.out).cell i hil;have HRS:Hid (xH many (i+1)=xH many i++if 0<many[i] then [i] else []):=Hi (by rw [zfJ]; simp [List.getD_eq_getElem?_getD,hil]);generalize many[i]=m at *;have hbx:=HB.out.cell 0 rfl;clear hil;obtain ⟨va,vc,rfl⟩:=HO.out.form;obtain ⟨fl,hfl⟩ : ∃ fl,(zl (xH many i)).length=fl:=⟨_,rfl⟩;rw [hfl] at HO ⊢;have HFL:=Hi hfl;have hfb:fl≤1000000:=(by rw [← hfl,zq]; have:=zbl many i; omega);have hw1:IntKind.i64.wrap ((i:Int)+1)=((i+1:Nat):Int):=(by rw [IntWalk.i64_in _ (by omega)]; rfl);clear hfl;by_cases hp:0<m
    · have HR2:Hid (zl (xH many (i+1))=zl (xH many i)++[.int .i64 (i:Int)]):=Hi (by rw [HRS.out,if_pos hp]; simp [zl]);have hRz:=HO.out.1.alloc (.cells #[.int .i64 (i:Int)] 3);rw [HFL.out] at hRz;clear HRS;(go_wp2_with (at_builtin; refine zH _ rfl _ _ 57 rfl 3 i0 _ 1 8 Tryz.underlying57 hi hz0 hz1 hz2 rfl (by omega) (.slice va fl vc) fl _ rfl hRz ⟨wr.heap.size,0,none⟩ 1 1 [.int .i64 (i:Int)] rfl rfl (zkt _ _ _) (by simp [Value.oneCell']) (by unfold maxLen; omega) (by omega) ?_));intro v4 w4 hR4 hU4 hT4;have hap:=HO.out.app HU.out ((Upd.refl [] wr).alloc (.cells #[.int .i64 (i:Int)] 3)) (ys:=[.int .i64 (i:Int)]) (by rw [HFL.out]; exact hR4) hU4 hT4;have hb4:=(HB.out.alloc (.cells #[.int .i64 (i:Int)] 3)).upd hU4 (fun hm=>(HO.out.1.neB HB.out (by decide)) (by simpa using hm));have HAP:=Hi hap;have HB4:=Hi hb4;clear hR4 hU4 hT4 hap hb4 hRz;go_wp2;go_roundg (1000000-(i+1))
      · exact ⟨i+1,by omega,rfl,by first | rfl | go_num,Hi (by rw [HR2.out]; exact HAP.out.1),Hi HAP.out.2,HB4⟩
      · omega
    · have HR2:Hid (xH many (i+1)=xH many i):=Hi (by rw [HRS.out,if_neg hp,List.append_nil]);clear HRS;go_wp2;go_roundg (1000000-(i+1))
      · exact ⟨i+1,by omega,rfl,by first | rfl | go_num,Hi (by rw [HR2.out]; exact HO.out),HU,HB⟩
      · omega
  · have hcz : ¬ (i:Int)<(n:Int):=(by omega);obtain rfl:i=n:=(by omega);(go_wp2_with fail);refine (HSO.out _ _ _ HB.out HU.out HO.out).mono ?_;rintro e w1 ⟨rfl,u,h1,h2,h3⟩;have H1:=Hi h1;have H2:=Hi h2;have H3:=Hi h3;clear h1 h2 h3;go_wp2;go_ret;exact ⟨_,u,rfl,H1.out,H2.out,H3.out⟩
end Go.Proofs.YtfkenhihcmmgkaaGreatDoor
