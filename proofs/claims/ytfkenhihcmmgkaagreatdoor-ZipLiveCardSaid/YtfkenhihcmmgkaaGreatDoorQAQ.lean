/- Package field: Writer: walks. -/
import Derived.Test.YtfkenhihcmmgkaaGreatDoorQAP
set_option linter.unusedVariables false
set_option linter.unusedSimpArgs false
set_option linter.unusedSectionVars false
set_option maxRecDepth 100000
set_option maxHeartbeats 12800000
namespace Go.Proofs.YtfkenhihcmmgkaaGreatDoor
open Go.RowKit
theorem zkO:QV 130:=⟨by kernel_rfl,by decide⟩
abbrev Wr (B b:Nat) (l:List Nat) (w:World):Prop:=Bld 130 B b l w
theorem Upd.belowB {B:Nat} {w w':World} (h:Upd [] w w') (hB:B≤w.heap.size):Below B w w':=h.below' hB (by simp)
theorem XL (B b g:Nat) (l:List Nat) (s:ByteArray) (w:World) (h:Wr B b l w) (hg:w.cell? ⟨g,0,none⟩=some (.string s)) (hlen:l.length+s.size≤1000000000) (hBw:B≤w.heap.size) :
 Calls Tryz.prog 70 #[.pointer (some ⟨b,0,none⟩),.slice (some ⟨g,0,none⟩) 1 1] w fun e w'=>e = .returned (.pointer (some ⟨b,0,none⟩))∧Wr B b (l++zf s) w'∧Below B w w'∧Kept b w w':=by
 have HW:=Hi (kH zkO B b l s w h hlen hBw);clear h;go_enter Tryz.func70,Tryz.ntmps70;go_wp2;go_loopg [11] 1 (fun gg s11 wr => ∃ i,gg=1-i∧s11 = .int .i64 (i:Nat)∧((i=0∧wr=w)∨(i=1∧Hid (Wr B b (l++zf s) wr∧Below B w wr∧Kept b w wr))))
 case atStart=>exact ⟨0,rfl,rfl,.inl ⟨rfl,rfl⟩⟩
 case round =>
  obtain ⟨i,rfl,rfl,⟨rfl,rfl⟩ | ⟨rfl,HF⟩⟩:=hrel
  · (go_wp2_with fail);refine HW.out.mono ?_;rintro e w1 ⟨rfl,hF⟩;go_wp2;go_roundg (1-1)
    · exact ⟨1,rfl,rfl,.inr ⟨rfl,Hi hF⟩⟩
    · omega
  · go_wp2;go_ret;exact ⟨rfl,HF.out⟩
theorem QM (B b n k:Nat) (l:List Nat) (w:World) (h:Wr B b l w) (hn:n<18446744073709551616) (hk:k≤8) (hlen:l.length≤100000000) (hBw:B≤w.heap.size) :
 Calls Tryz.prog 69 #[.pointer (some ⟨b,0,none⟩),.int .u64 (n:Nat),.int .i64 (k:Nat)] w fun e w'=>e = .returned (.pointer (some ⟨b,0,none⟩))∧Wr B b (l++leP n k) w'∧Below B w w'∧Kept b w w':=by
 have HP:=Hi (zir n k w hn hk);go_enter Tryz.func69,Tryz.ntmps69;go_wp2_with fail
 refine HP.out.mono ?_;rintro e w1 ⟨rfl,hU⟩;go_wp2_with fail
 have hU2:=hU.alloc (.cells #[.string (zg (leP n k))] 9);have hsz:(zg (leP n k)).size=k:=by rw [zk,zy]
 have hb:zf (zg (leP n k))=leP n k:=zR _ (Ya k n);refine (XL B b w1.heap.size l _ _ (h.upd hU2) ((Blk.new w1 [.string (zg (leP n k))] 9).cell 0 rfl) (by rw [hsz]; omega) (by have:=hU2.size; omega)).mono ?_;rintro e w2 ⟨rfl,hW,hL,hK⟩;rw [hb] at hW;go_wp2;go_ret;exact ⟨rfl,hW,(hU2.belowB hBw).trans hL,hU2.kept.trans hK⟩
theorem QU (B b g:Nat) (l:List Nat) (s:ByteArray) (w:World) (h:Wr B b l w) (hg:w.cell? ⟨g,0,none⟩=some (.string s)) (hlen:l.length+s.size≤1000000000) (hBw:B≤w.heap.size) :
 Calls Tryz.prog 70 #[.pointer (some ⟨b,0,none⟩),.slice (some ⟨g,0,none⟩) 1 1] w fun e w'=>e = .returned (.pointer (some ⟨b,0,none⟩))∧Wr B b (l++zf s) w'∧Below B w w' :=
 (XL B b g l s w h hg hlen hBw).mono fun _ _ h=>⟨h.1,h.2.1,h.2.2.1⟩
theorem Yn (B b n k:Nat) (l:List Nat) (w:World) (h:Wr B b l w) (hn:n<18446744073709551616) (hk:k≤8) (hlen:l.length≤100000000) (hBw:B≤w.heap.size) :
 Calls Tryz.prog 69 #[.pointer (some ⟨b,0,none⟩),.int .u64 (n:Nat),.int .i64 (k:Nat)] w fun e w'=>e = .returned (.pointer (some ⟨b,0,none⟩))∧Wr B b (l++leP n k) w'∧Below B w w' :=
 (QM B b n k l w h hn hk hlen hBw).mono fun _ _ h=>⟨h.1,h.2.1,h.2.2.1⟩
theorem Vp (p:ByteArray):p++({ data := #[47] }:ByteArray)=zg (zf p++[47]):=by
 rw [← zI,zE]; rfl
theorem QA (r:RecD) (w:World) (h:r.Fits):Calls Tryz.prog 100 #[r.v] w fun e w'=>e = .returned (.string (zg (zw r.k r.p)))∧Upd [] w w':=by
 have hp:=h.p;obtain ⟨p,m,sum,l,wh,k,md,t,pos⟩:=r;dsimp only at hp;unfold RecD.v;dsimp only;have HA:=Hi (Vp p);have HB:=Hi (zE p);by_cases hk:k=2
 · subst hk;have HN:Hid (zw 2 p=zf p++[47]):=Hi rfl;go_enter Tryz.func100,Tryz.ntmps100;go_wp2;go_ret;exact ⟨by rw [HN.out,← HA.out]; rfl,(Upd.refl _ _).alloc _⟩
 · have HN:Hid (zw k p=zf p):=Hi (if_neg hk);have t1:(k==2)=false:=(by rw [beq_eq_false_iff_ne]; exact hk);go_enter Tryz.func100,Tryz.ntmps100;go_wp2;go_ret;exact ⟨by rw [HN.out,HB.out]; rfl,(Upd.refl _ _).alloc _⟩
theorem vW (r:RecD) (w:World) (h:r.Fits):Calls Tryz.prog 23 #[r.v] w fun e w'=>e = .returned (.string (zg (zw r.k r.p)))∧Upd [] w w':=by
 have hp:=h.p;obtain ⟨p,m,sum,l,wh,k,md,t,pos⟩:=r;dsimp only at hp;unfold RecD.v;dsimp only;have HA:=Hi (Vp p);have HB:=Hi (zE p);by_cases hk:k=2
 · subst hk;have HN:Hid (zw 2 p=zf p++[47]):=Hi rfl;go_enter Tryz.func23,Tryz.ntmps23;go_wp2;go_ret;exact ⟨by rw [HN.out,← HA.out]; rfl,(Upd.refl _ _).alloc _⟩
 · have HN:Hid (zw k p=zf p):=Hi (if_neg hk);have t1:(k==2)=false:=(by rw [beq_eq_false_iff_ne]; exact hk);go_enter Tryz.func23,Tryz.ntmps23;go_wp2;go_ret;exact ⟨by rw [HN.out,HB.out]; rfl,(Upd.refl _ _).alloc _⟩
theorem zeS (n:Int) (w:World):Calls Tryz.prog 171 #[.int .i64 n] w fun e w'=>e = .returned (.bool (yZ n))∧w=w':=by
 by_cases h:0≤n
 · have t1:decide (0≤n)=true:=decide_eq_true h;have HS:Hid (yZ n=decide (n<2147483648)):=Hi (by unfold yZ; rw [t1]; rfl);go_enter Tryz.func171,Tryz.ntmps171;go_wp2;go_returns;exact ⟨by rw [HS.out]; rfl,rfl⟩
 · have t1:decide (0≤n)=false:=decide_eq_false h;have HS:Hid (yZ n=false):=Hi (by unfold yZ; rw [t1]; rfl);go_enter Tryz.func171,Tryz.ntmps171;go_wp2;go_returns;exact ⟨by rw [HS.out]; rfl,rfl⟩
theorem zfY (r:RecD) (w:World) (h:r.Fits):Calls Tryz.prog 102 #[r.v] w fun e w'=>e = .returned (.bool (qb r))∧Upd [] w w':=by
 have hp:=h.p;have hs:=h.sum;have HL:=Hi (show qb r=if (r.m≠0∧r.m≠8)∨yZ r.l=false∨yZ r.wh=false∨yZ r.pos=false then false
  else if r.k=2 then decide (r.sum=0)&&decide (r.l=0)&&decide (r.wh=0)&&decide (r.m=0) else decide (r.m=8)||decide (r.l=r.wh) from rfl)
 obtain ⟨p,m,sum,l,wh,k,md,t,pos⟩:=r;dsimp only at hp hs HL;unfold RecD.v;dsimp only;rw [HL.out];clear HL;go_enter Tryz.func102,Tryz.ntmps102;go_wp2_with (go_at_call 171; refine (zeS _ _).mono ?_; rintro e w2 ⟨rfl,rfl⟩)
 all_goals go_returns
 all_goals (refine ⟨congrArg (fun z=>Ending.returned (.bool z)) ?_,(Upd.refl _ _).alloc _⟩)
 all_goals (simp_all<;>rfl)
theorem zbp (r:RecD) (w:World) (h:r.Fits):Calls Tryz.prog 103 #[r.v] w fun e w'=>e = .returned (.bool (xN r.k r.t))∧Upd [] w w':=by
 have ht:=h.t;obtain ⟨p,m,sum,l,wh,k,md,t,pos⟩:=r;dsimp only at ht;unfold RecD.v;dsimp only;have HT:=Hi (fun w'=>Ql t w' ht);by_cases hk:k=2
 · subst hk;have HN:Hid (xN 2 t=decide (t=2162688)):=Hi rfl;have t1:((t:Int)==2162688)=decide (t=2162688):=(by rw [Bool.eq_iff_iff,beq_iff_eq,decide_eq_true_eq]; omega);go_enter Tryz.func103,Tryz.ntmps103;go_wp2;go_ret;exact ⟨by rw [HN.out]; rfl,(Upd.refl _ _).alloc _⟩
 · have HN:Hid (xN k t=Xq t):=Hi (if_neg hk);have t1:(k==2)=false:=(by rw [beq_eq_false_iff_ne]; exact hk);go_enter Tryz.func103,Tryz.ntmps103;go_wp2_with fail
   refine (HT.out _).mono ?_;rintro e w1 ⟨rfl,hU⟩;go_wp2;go_ret;exact ⟨by rw [HN.out]; rfl,((Upd.refl _ _).alloc _).then hU⟩
theorem VM (r:RecD) (w:World) (h:r.Fits):Calls Tryz.prog 55 #[r.v] w fun e w'=>e = .returned (.bool (xN r.k r.t))∧Upd [] w w':=by
 have ht:=h.t;obtain ⟨p,m,sum,l,wh,k,md,t,pos⟩:=r;dsimp only at ht;unfold RecD.v;dsimp only;have HS:=Hi (fun w'=>zct t w' ht);have HR:=Hi (fun w'=>zce _ _ _ _ _ _ w' (zan t));have HT:=Hi (show Xq t=ko (1980+(t:Int)/33554432%128) ((t:Int)/2097152%16) ((t:Int)/65536%32) ((t:Int)/2048%32) ((t:Int)/32%64) (2*((t:Int)%32)) from rfl);unfold vO at HS;by_cases hk:k=2
 · subst hk;have HN:Hid (xN 2 t=decide (t=2162688)):=Hi rfl;have t1:((t:Int)==2162688)=decide (t=2162688):=(by rw [Bool.eq_iff_iff,beq_iff_eq,decide_eq_true_eq]; omega);go_enter Tryz.func55,Tryz.ntmps55;go_wp2;go_ret;exact ⟨by rw [HN.out]; rfl,(Upd.refl _ _).alloc _⟩
 · have HN:Hid (xN k t=Xq t):=Hi (if_neg hk);have t1:(k==2)=false:=(by rw [beq_eq_false_iff_ne]; exact hk);go_enter Tryz.func55,Tryz.ntmps55;go_wp2_with fail
   refine (HS.out _).mono ?_;rintro e w1 ⟨rfl,hU⟩;go_wp2_with fail
   refine (HR.out w1).mono ?_;rintro e w2 ⟨rfl,hU2⟩;go_wp2;go_ret;exact ⟨by rw [HN.out,HT.out]; rfl,(((Upd.refl _ _).alloc _).then hU).then hU2⟩
theorem vD (a:List Nat) (p:ByteArray) (ha : ∀ x∈a,x<256):((zg a).toList=p.toList)=(a=zf p):=by
 refine propext ⟨fun h=>?_,fun h=>by rw [h,zE]⟩;rw [ByteArray.toList_eq,ByteArray.toList_eq] at h;have:zg a=p:=ByteArray.ext (Array.ext' h);rw [← this,zR a ha]
theorem jM (r:RecD) (w:World) (h:r.Fits):Calls Tryz.prog 57 #[r.v] w fun e w'=>e = .returned (.int .i64 (yf r:Nat))∧Upd [] w w':=by
 have hp:=h.p;have hsz:(zg (zw r.k r.p)).size≤1000000:=by have:=xn r.k r.p; rw [zk]; omega
 have HN:=Hi (fun w=>QA r w h);have HP:=Hi (fun w=>Xi (zg (zw r.k r.p)) w hsz);rw [zR _ (xY r.k r.p)] at HP;have HL:=Hi (fun w=>zfY r w h);have HT:=Hi (fun w=>zbp r w h);have HE:Hid (yf r=if vF r=false then 5 else if qb r=false then 2 else if r.md<0∨511<r.md then 12 else if xN r.k r.t=false then 13 else 0):=Hi rfl;have HB:Hid (vF r=((zV (zw r.k r.p)).2.2&&decide ((zV (zw r.k r.p)).1=zf r.p)&&decide (((zV (zw r.k r.p)).2.1:Int)=r.k))):=Hi rfl;have HA:Hid (∀ x∈(zV (zw r.k r.p)).1,x<256):=Hi (zba (xY r.k r.p));generalize yf r=E at *;generalize xN r.k r.t=tb at *;generalize qb r=lb at *;generalize vF r=nb at *;generalize zV (zw r.k r.p)=pp at *;generalize zg (zw r.k r.p)=S at *;clear hsz;obtain ⟨a,kk,okb⟩:=pp;unfold ZJ at HP;dsimp only at HP HB HA;obtain ⟨p,m,sum,l,wh,k,md,t,pos⟩:=r;unfold RecD.v at *;dsimp only at *;have HQ:=Hi (vD a p HA.out);clear HA;go_enter Tryz.func57,Tryz.ntmps57;go_wp2_with fail
 refine (HN.out _).mono ?_;rintro e w1 ⟨rfl,hU1⟩;go_wp2_with fail
 refine (HP.out _).mono ?_;rintro e w2 ⟨rfl,hU2⟩;have hU:Upd [] w w2:=(((Upd.refl [] w).alloc _).then hU1).then hU2;have hB:=((Blk.new w [.string p,.int .i64 m,.int .u32 (sum:Nat),.int .i64 l,.int .i64 wh,.int .i64 k,.int .i64 md,.int .u32 (t:Nat),.int .i64 pos] 26).upd hU1 (by simp)).upd hU2 (by simp);have hlt:=hB.lt;generalize w.heap.size=b0 at *;have cA:=hB.all;have HBB:=Hi hB;have HU:=Hi hU;clear hB hU hU1 hU2;go_wp2_with fail
 any_goals (go_ret; refine ⟨?_,HU.out⟩; have hnb:nb=false:=(by
  rw [HB.out]
  first
   | (have h1 := ‹¬ (okb=true)›; simp [h1]; done)
   | (have h2 := ‹¬ ((zg a).toList=p.toList)›; rw [HQ.out] at h2; simp [h2]; done)
   | (have h3 := ‹((kk:Int) != k)=true›; have h4 : ¬ ((kk:Int)=k):=(by simpa using h3); simp [h4]; done)); rw [HE.out,hnb]; rfl)
 have hnb:nb=true:=by
  have h2 := ‹(zg a).toList=p.toList›;have h1 := ‹okb=true›;have h3 := ‹((kk:Int) != k)=false›;rw [HQ.out] at h2;have h4:(kk:Int)=k:=by simpa using h3
  rw [HB.out];simp [h1,h2,h4]
 cases lb with
 | false =>
   refine (HL.out _).mono ?_;rintro e w3 ⟨rfl,hU3⟩;have HF:=Hi (HU.out.then hU3);clear hU3;go_wp2;go_ret;exact ⟨by rw [HE.out,hnb]; rfl,HF.out⟩
 | true =>
   refine (HL.out _).mono ?_;rintro e w3 ⟨rfl,hU3⟩;have hB3:=HBB.out.upd hU3 (by simp);have dA:=hB3.all;have HF:=Hi (HU.out.then hU3);clear hU3 hB3 cA;by_cases hm:md<0∨511<md
   · have HX:Hid (E=12):=Hi (by rw [HE.out,hnb,if_neg (by simp),if_neg (by simp),if_pos hm]);clear HE;rcases hm with hm | hm
     · (go_wp2_with fail);go_ret;exact ⟨by rw [HX.out]; rfl,HF.out⟩
     · have hm0 : ¬ md<0:=(by omega);(go_wp2_with fail);go_ret;exact ⟨by rw [HX.out]; rfl,HF.out⟩
   · have HX:Hid (E=if tb=false then 13 else 0):=Hi (by rw [HE.out,hnb,if_neg (by simp),if_neg (by simp),if_neg hm]);have hm0 : ¬ md<0:=(by omega);have hm1 : ¬ 511<md:=(by omega);clear HE hm;(go_wp2_with fail);refine (HT.out _).mono ?_;rintro e w4 ⟨rfl,hU4⟩;have HG:=Hi (HF.out.then hU4);clear hU4 dA;cases tb with
     | false =>
       go_wp2;go_ret;exact ⟨by rw [HX.out]; rfl,HG.out⟩
     | true =>
       go_wp2;go_ret;exact ⟨by rw [HX.out]; rfl,HG.out⟩
theorem JK (B b:Nat) (l:List Nat) (w:World) (h:Wr B b l w) (h0:l≠[]) (hb : ∀ x∈l,x<256) :
 Calls Tryz.prog 71 #[.pointer (some ⟨b,0,none⟩)] w fun e w'=>e = .returned (.string (zg l))∧Below B w w':=by
 have HS:=Hi (ZN B b l w h h0 hb);clear h;go_enter Tryz.func71,Tryz.ntmps71;go_wp2_with fail
 refine HS.out.mono ?_;rintro e w1 ⟨rfl,hF⟩;go_wp2;go_ret;exact ⟨rfl,hF⟩
theorem Qg (B b n:Nat) (l:List Nat) (w:World) (h:Wr B b l w) (hn:n<9223372036854775808) (hlen:l.length≤100000000) (hBw:B≤w.heap.size) :
 Calls Tryz.prog 167 #[.int .i64 (n:Nat),.pointer (some ⟨b,0,none⟩)] w fun e w'=>e = .returned (.tuple #[])∧Wr B b (l++leP n 2) w'∧Below B w w':=by
 have HS:=Hi (Yn B b n 2 l w h (by omega) (by omega) hlen hBw);clear h;go_enter Tryz.func167,Tryz.ntmps167;go_wp2_with fail
 refine HS.out.mono ?_;rintro e w1 ⟨rfl,hF⟩;go_wp2
 go_end0
 exact ⟨rfl,hF⟩
theorem vT (B b n:Nat) (l:List Nat) (w:World) (h:Wr B b l w) (hn:n<9223372036854775808) (hlen:l.length≤100000000) (hBw:B≤w.heap.size) :
 Calls Tryz.prog 168 #[.int .i64 (n:Nat),.pointer (some ⟨b,0,none⟩)] w fun e w'=>e = .returned (.tuple #[])∧Wr B b (l++leP n 4) w'∧Below B w w':=by
 have HS:=Hi (Yn B b n 4 l w h (by omega) (by omega) hlen hBw);clear h;go_enter Tryz.func168,Tryz.ntmps168;go_wp2_with fail
 refine HS.out.mono ?_;rintro e w1 ⟨rfl,hF⟩;go_wp2
 go_end0
 exact ⟨rfl,hF⟩
theorem Blk.below {w w':World} {b B:Nat} {cs:List Value} {t:TypeId} (h:Blk w b cs t) (hb:Below B w w') (hlt:b<B):Blk w' b cs t:=(hb.block b hlt).trans h
theorem Kt (r:RecD) (w:World) (h:r.Fits):Calls Tryz.prog 97 #[r.v] w fun e w'=>e = .returned (.string (zg (We r)))∧Upd [] w w':=by
 have hp:=h.p;have hs:=h.sum;have ht:=h.t;have HR:=Hi (fun w=>jM r w h);have HN:=Hi (fun w=>QA r w h);have hnl:=xn r.k r.p;have HNL:=Hi (xY r.k r.p);have HW:Hid (We r=if yf r=0 then jY r else []):=Hi rfl;have HH:Hid (jY r=[80,75,3,4,20,0,0,8]++(leP r.m.toNat 2++(leP r.t 4++(leP r.sum 4++(leP r.l.toNat 4++(leP r.wh.toNat 4++(leP (zw r.k r.p).length 2++([0,0]++zw r.k r.p)))))))):=Hi rfl;have HLT:=Hi (zg6 r);have HPT:=Hi (fun h0=>vK (xv (r:=r) h0).2.1);generalize jY r=hd at *;generalize We r=wr at *;by_cases hE:yf r=0;rotate_left
 · rw [if_neg hE] at HW;generalize yf r=E at *;obtain ⟨p,m,sum,l,wh,k,md,t,pos⟩:=r;unfold RecD.v at *;dsimp only at *;have t1:((E:Int) != 0)=true:=(by simpa using hE);go_enter Tryz.func97,Tryz.ntmps97;go_wp2_with fail
   refine (HR.out _).mono ?_;rintro e w1 ⟨rfl,hU1⟩;have HU:=Hi (((Upd.refl [] w).alloc (.cells #[.string p,.int .i64 m,.int .u32 (sum:Nat),.int .i64 l,.int .i64 wh,.int .i64 k,.int .i64 md,.int .u32 (t:Nat),.int .i64 pos] 26)).then hU1);go_wp2_with fail
   go_ret;exact ⟨by rw [HW.out]; rfl,HU.out⟩
 · rw [if_pos hE] at HW;rw [hE] at HR;obtain ⟨pm,pl,pw,pa⟩:=HPT.out hE;clear hE HPT;have hsz:(zg (zw r.k r.p)).size=(zw r.k r.p).length:=zk _;have HBN:=Hi (zR _ (xY r.k r.p));generalize hS:zg (zw r.k r.p)=S at *;generalize hnm:zw r.k r.p=nm at *;obtain ⟨p,m,sum,l,wh,k,md,t,pos⟩:=r;unfold RecD.v at *;dsimp only at *;obtain ⟨mn,rfl⟩ : ∃ mn:Nat,m=mn:=⟨m.toNat,by omega⟩;obtain ⟨ln,rfl⟩ : ∃ ln:Nat,l=ln:=⟨l.toNat,by omega⟩;obtain ⟨wn,rfl⟩ : ∃ wn:Nat,wh=wn:=⟨wh.toNat,by omega⟩;simp only [Int.toNat_natCast] at HH;have hmn:mn≤8:=(by omega);have hln:ln<2147483648:=(by omega);have hwn:wn<2147483648:=(by omega);have hz:(S.size:Int)≤1001:=(by omega);clear pm pl pw pa;go_enter Tryz.func97,Tryz.ntmps97;go_wp2_with fail
   refine (HR.out _).mono ?_;rintro e w1 ⟨rfl,hU1⟩;have HU:=Hi (((Upd.refl [] w).alloc (.cells #[.string p,.int .i64 mn,.int .u32 (sum:Nat),.int .i64 ln,.int .i64 wn,.int .i64 k,.int .i64 md,.int .u32 (t:Nat),.int .i64 pos] 26)).then hU1);have hB:=(Blk.new w [.string p,.int .i64 mn,.int .u32 (sum:Nat),.int .i64 ln,.int .i64 wn,.int .i64 k,.int .i64 md,.int .u32 (t:Nat),.int .i64 pos] 26).upd hU1 (by simp);generalize w.heap.size=b0 at *;have hlt:=hB.lt;have hW0:=Bld.fresh 130 w1;have hBB:=hB.alloc (.cells #[.pointer none,.slice none 0 0] 130);have cA:=hBB.all;have HBB:=Hi hBB;have hA:w1.heap.size≤(w1.alloc (.cells #[.pointer none,.slice none 0 0] 130)).heap.size:=(by rw [World.size_alloc]; omega);have HL:=Hi (Below.refl w1.heap.size (w1.alloc (.cells #[.pointer none,.slice none 0 0] 130)));go_wp2_with fail
   refine (vT w1.heap.size w1.heap.size (67324752) _ _ hW0 (by omega) (by simp only [List.length_append,zy,List.length_nil]; omega) hA).mono ?_;rintro e x0 ⟨rfl,hWx0,hLx0⟩;have HLx0:=Hi (HL.out.trans hLx0);have hBx0:=HBB.out.below hLx0 hlt;have hAx0:=Nat.le_trans hA hLx0.size;clear cA;have dA:=hBx0.all;have HBx0:=Hi hBx0;clear hBx0 hLx0;go_wp2_with fail
   refine (Qg w1.heap.size w1.heap.size (20) _ _ hWx0 (by omega) (by simp only [List.length_append,zy,List.length_nil]; omega) hAx0).mono ?_;rintro e x1 ⟨rfl,hWx1,hLx1⟩;have HLx1:=Hi (HLx0.out.trans hLx1);have hBx1:=HBx0.out.below hLx1 hlt;have hAx1:=Nat.le_trans hAx0 hLx1.size;clear dA;have cA:=hBx1.all;have HBx1:=Hi hBx1;clear hBx1 hLx1;go_wp2_with fail
   refine (Qg w1.heap.size w1.heap.size (2048) _ _ hWx1 (by omega) (by simp only [List.length_append,zy,List.length_nil]; omega) hAx1).mono ?_;rintro e x2 ⟨rfl,hWx2,hLx2⟩;have HLx2:=Hi (HLx1.out.trans hLx2);have hBx2:=HBx1.out.below hLx2 hlt;have hAx2:=Nat.le_trans hAx1 hLx2.size;clear cA;have dA:=hBx2.all;have HBx2:=Hi hBx2;clear hBx2 hLx2;go_wp2_with fail
   refine (Qg w1.heap.size w1.heap.size (mn) _ _ hWx2 (by omega) (by simp only [List.length_append,zy,List.length_nil]; omega) hAx2).mono ?_;rintro e x3 ⟨rfl,hWx3,hLx3⟩;have HLx3:=Hi (HLx2.out.trans hLx3);have hBx3:=HBx2.out.below hLx3 hlt;have hAx3:=Nat.le_trans hAx2 hLx3.size;clear dA;have cA:=hBx3.all;have HBx3:=Hi hBx3;clear hBx3 hLx3;go_wp2_with fail
   refine (vT w1.heap.size w1.heap.size (t) _ _ hWx3 (by omega) (by simp only [List.length_append,zy,List.length_nil]; omega) hAx3).mono ?_;rintro e x4 ⟨rfl,hWx4,hLx4⟩;have HLx4:=Hi (HLx3.out.trans hLx4);have hBx4:=HBx3.out.below hLx4 hlt;have hAx4:=Nat.le_trans hAx3 hLx4.size;clear cA;have dA:=hBx4.all;have HBx4:=Hi hBx4;clear hBx4 hLx4;go_wp2_with fail
   refine (vT w1.heap.size w1.heap.size (sum) _ _ hWx4 (by omega) (by simp only [List.length_append,zy,List.length_nil]; omega) hAx4).mono ?_;rintro e x5 ⟨rfl,hWx5,hLx5⟩;have HLx5:=Hi (HLx4.out.trans hLx5);have hBx5:=HBx4.out.below hLx5 hlt;have hAx5:=Nat.le_trans hAx4 hLx5.size;clear dA;have cA:=hBx5.all;have HBx5:=Hi hBx5;clear hBx5 hLx5;go_wp2_with fail
   refine (vT w1.heap.size w1.heap.size (ln) _ _ hWx5 (by omega) (by simp only [List.length_append,zy,List.length_nil]; omega) hAx5).mono ?_;rintro e x6 ⟨rfl,hWx6,hLx6⟩;have HLx6:=Hi (HLx5.out.trans hLx6);have hBx6:=HBx5.out.below hLx6 hlt;have hAx6:=Nat.le_trans hAx5 hLx6.size;clear cA;have dA:=hBx6.all;have HBx6:=Hi hBx6;clear hBx6 hLx6;go_wp2_with fail
   refine (vT w1.heap.size w1.heap.size (wn) _ _ hWx6 (by omega) (by simp only [List.length_append,zy,List.length_nil]; omega) hAx6).mono ?_;rintro e x7 ⟨rfl,hWx7,hLx7⟩;have HLx7:=Hi (HLx6.out.trans hLx7);have hBx7:=HBx6.out.below hLx7 hlt;have hAx7:=Nat.le_trans hAx6 hLx7.size;clear dA;have cA:=hBx7.all;have HBx7:=Hi hBx7;clear hBx7 hLx7;go_wp2_with fail
   refine (HN.out _).mono ?_;rintro e x8 ⟨rfl,hN8⟩;have hWx8:=hWx7.upd hN8;have hLx8:=(hN8.belowB hAx7);have HLx8:=Hi (HLx7.out.trans hLx8);have hBx8:=HBx7.out.below hLx8 hlt;have hAx8:=Nat.le_trans hAx7 hLx8.size;clear cA;have dA:=hBx8.all;have HBx8:=Hi hBx8;clear hBx8 hLx8;go_wp2_with fail
   refine (Qg w1.heap.size w1.heap.size (nm.length) _ _ hWx8 (by omega) (by simp only [List.length_append,zy,List.length_nil]; omega) hAx8).mono ?_;rintro e x9 ⟨rfl,hWx9,hLx9⟩;have HLx9:=Hi (HLx8.out.trans hLx9);have hBx9:=HBx8.out.below hLx9 hlt;have hAx9:=Nat.le_trans hAx8 hLx9.size;clear dA;have cA:=hBx9.all;have HBx9:=Hi hBx9;clear hBx9 hLx9;go_wp2_with fail
   refine (Qg w1.heap.size w1.heap.size (0) _ _ hWx9 (by omega) (by simp only [List.length_append,zy,List.length_nil]; omega) hAx9).mono ?_;rintro e x10 ⟨rfl,hWx10,hLx10⟩;have HLx10:=Hi (HLx9.out.trans hLx10);have hBx10:=HBx9.out.below hLx10 hlt;have hAx10:=Nat.le_trans hAx9 hLx10.size;clear cA;have dA:=hBx10.all;have HBx10:=Hi hBx10;clear hBx10 hLx10;go_wp2_with fail
   refine (HN.out _).mono ?_;rintro e y1 ⟨rfl,hN1⟩;have hW1:=hWx10.upd hN1;have HL1:=Hi (HLx10.out.trans (hN1.belowB hAx10));have hA1:=Nat.le_trans hAx10 hN1.size;go_wp2_with fail
   have hU2:=(Upd.refl [] y1).alloc (.cells #[.string S] 9);refine (QU w1.heap.size w1.heap.size y1.heap.size _ S _ (hW1.upd hU2) ((Blk.new y1 [.string S] 9).cell 0 rfl) (by simp only [List.length_append,zy,List.length_nil]; omega) (by have:=hU2.size; omega)).mono ?_;rintro e y2 ⟨rfl,hW2,hL2⟩;have HL2:=Hi ((HL1.out.trans (hU2.belowB hA1)).trans hL2);rw [HBN.out] at hW2;have hhd:[]++leP 67324752 4++leP 20 2++leP 2048 2++leP mn 2++leP t 4++leP sum 4++leP ln 4++leP wn 4++leP nm.length 2++leP 0 2++nm=hd:=by
    rw [HH.out];simp [List.append_assoc,leP]
   rw [hhd] at hW2;go_wp2_with fail
   refine (JK _ _ hd _ hW2 (by rw [HH.out]; simp) HLT.out).mono ?_;rintro e y3 ⟨rfl,hL3⟩;have HL3:=Hi (HL2.out.trans hL3);go_wp2;go_ret;refine ⟨by rw [HW.out]; rfl,?_⟩;exact HU.out.then (Upd.of_below ((((Upd.refl [] w1).alloc _).below).trans HL3.out))
def jP (k:Int) (md:Nat):Nat:=if k=2 then (md+16384)*65536+16 else (md+32768)*65536
def jI (r:RecD):List Nat:=[80,75,1,2,20,3,20,0,0,8]++(leP r.m.toNat 2++(leP r.t 4++(leP r.sum 4++(leP r.l.toNat 4++(leP r.wh.toNat 4++(leP (zw r.k r.p).length 2++([0,0,0,0,0,0,0,0]++(leP (jP r.k r.md.toNat) 4++(leP r.pos.toNat 4++zw r.k r.p)))))))))
def yO (r:RecD):List Nat:=if yf r=0 then jI r else []
theorem zc5 (r:RecD):(jI r).length=46+(zw r.k r.p).length:=by simp [jI,zy]; omega
theorem Vk (r:RecD) : ∀ x∈jI r,x<256:=by
 intro x hx;simp only [jI,List.mem_append] at hx;rcases hx with h | h | h | h | h | h | h | h | h | h | h
 · simp at h; omega
 all_goals first
  | exact Ya _ _ x h
  | exact xY _ _ x h
  | (simp at h; omega)
theorem Yq (r:RecD) : ∀ x∈yO r,x<256:=by
 unfold yO; split
 · exact Vk r
 · intro x hx; simp at hx
def zJ (k:Nat) (ns:List Nat):List Nat:=(ns.map fun n=>leP n k).flatten
theorem yK (k:Nat) : ∀ ns,(zJ k ns).length=ns.length*k
 | []=>by simp [zJ]
 | n::r=>by
   have:=yK k r;unfold zJ at this ⊢;rw [List.map_cons,List.flatten_cons,List.length_append,this,zy,List.length_cons,Nat.succ_mul]; omega
theorem kV (k:Nat) (ns:List Nat) (n:Nat):zJ k (ns++[n])=zJ k ns++leP n k:=by simp [zJ]
theorem XN (k:Nat) (ns:List Nat) (n:Nat):zJ k (n::ns)=leP n k++zJ k ns:=by simp [zJ]
theorem jx (k:Nat):zJ k []=[]:=rfl
def qL (ns:List Nat):List Value:=ns.map fun x => .int .i64 (x:Nat)
theorem zaW (B b g n:Nat) (l ns:List Nat) (w:World) (h:Wr B b l w) (hg:Blk w g (qL ns) 3) (hgb:g≠b) (hns : ∀ x∈ns,x<9223372036854775808) (hn:ns.length=n) (hn2:n≤100) (hlen:l.length≤1000000) (hBw:B≤w.heap.size) :
 Calls Tryz.prog 119 #[.slice (some ⟨g,0,none⟩) n n,.pointer (some ⟨b,0,none⟩)] w fun e w'=>e = .returned (.tuple #[])∧Wr B b (l++zJ 2 ns) w'∧Below B w w'∧Kept b w w':=by
 have HG:=Hi hg;have HN:=Hi hns;have HL:=Hi hn;clear hg hns hn;go_enter Tryz.func119,Tryz.ntmps119;go_wp2;go_loopg [4,7] n (fun gg s4 s7 wr => ∃ i,i≤n∧gg=n-i∧s7 = .int .i64 (i:Nat)∧Hid (Wr B b (l++zJ 2 (ns.take i)) wr∧Below B w wr∧Kept b w wr))
 case atStart=>exact ⟨0,Nat.zero_le _,rfl,rfl,Hi ⟨by rw [List.take_zero,jx,List.append_nil]; exact h,Below.refl _ _,Kept.refl _ _⟩⟩
 case round =>
  obtain ⟨i,hi,rfl,rfl,HW⟩:=hrel;by_cases hc:i<n
  · have hcz:(i:Int)<(n:Int):=(by omega);have hil:i<ns.length:=(by rw [HL.out]; exact hc);obtain ⟨v,hv⟩ : ∃ v,v=ns[i]:=⟨_,rfl⟩;have hv1:v<9223372036854775808:=(by rw [hv]; exact HN.out _ (List.getElem_mem hil));have c1:=(HW.out.2.2 g _ 3 hgb (by decide) HG.out).cell i (v := .int .i64 (v:Nat)) (by unfold qL; rw [List.getElem?_map,List.getElem?_eq_getElem hil,← hv]; rfl);have HT:Hid (ns.take (i+1)=ns.take i++[v]):=Hi (by rw [hv,List.take_succ_eq_append_getElem hil]);have hlen2:(l++zJ 2 (ns.take i)).length≤100000000:=(by rw [List.length_append,yK,List.length_take]; omega);have HC:=Hi (QM B b v 2 _ wr HW.out.1 (by omega) (by omega) hlen2 (by have:=HW.out.2.1.size; omega));clear hv hlen2;(go_wp2_with fail);refine HC.out.mono ?_;rintro e w1 ⟨rfl,hW1,hL1,hK1⟩;have HF:Hid (Wr B b (l++zJ 2 (ns.take (i+1))) w1∧Below B w w1∧Kept b w w1):=Hi ⟨by rw [HT.out,kV,← List.append_assoc]; exact hW1,HW.out.2.1.trans hL1,HW.out.2.2.trans hK1⟩;clear hW1 hL1 hK1 HC HW;go_wp2;go_roundg (n-(i+1))
    · exact ⟨i+1,by omega,rfl,by first | rfl | go_num,HF⟩
    · omega
  · have hcz : ¬ (i:Int)<(n:Int):=(by omega);have h9:i=n:=(by omega);subst h9;have HF:Hid (Wr B b (l++zJ 2 ns) wr∧Below B w wr∧Kept b w wr):=Hi (by
     have:=HW.out;rwa [List.take_of_length_le (by rw [HL.out]; omega)] at this)
    clear HW;go_wp2
    go_end0
    exact ⟨rfl,HF.out⟩
theorem QY (B b g n:Nat) (l ns:List Nat) (w:World) (h:Wr B b l w) (hg:Blk w g (qL ns) 3) (hgb:g≠b) (hns : ∀ x∈ns,x<9223372036854775808) (hn:ns.length=n) (hn2:n≤100) (hlen:l.length≤1000000) (hBw:B≤w.heap.size) :
 Calls Tryz.prog 120 #[.slice (some ⟨g,0,none⟩) n n,.pointer (some ⟨b,0,none⟩)] w fun e w'=>e = .returned (.tuple #[])∧Wr B b (l++zJ 4 ns) w'∧Below B w w'∧Kept b w w':=by
 have HG:=Hi hg;have HN:=Hi hns;have HL:=Hi hn;clear hg hns hn;go_enter Tryz.func120,Tryz.ntmps120;go_wp2;go_loopg [4,7] n (fun gg s4 s7 wr => ∃ i,i≤n∧gg=n-i∧s7 = .int .i64 (i:Nat)∧Hid (Wr B b (l++zJ 4 (ns.take i)) wr∧Below B w wr∧Kept b w wr))
 case atStart=>exact ⟨0,Nat.zero_le _,rfl,rfl,Hi ⟨by rw [List.take_zero,jx,List.append_nil]; exact h,Below.refl _ _,Kept.refl _ _⟩⟩
 case round =>
  obtain ⟨i,hi,rfl,rfl,HW⟩:=hrel;by_cases hc:i<n
  · have hcz:(i:Int)<(n:Int):=(by omega);have hil:i<ns.length:=(by rw [HL.out]; exact hc);obtain ⟨v,hv⟩ : ∃ v,v=ns[i]:=⟨_,rfl⟩;have hv1:v<9223372036854775808:=(by rw [hv]; exact HN.out _ (List.getElem_mem hil));have c1:=(HW.out.2.2 g _ 3 hgb (by decide) HG.out).cell i (v := .int .i64 (v:Nat)) (by unfold qL; rw [List.getElem?_map,List.getElem?_eq_getElem hil,← hv]; rfl);have HT:Hid (ns.take (i+1)=ns.take i++[v]):=Hi (by rw [hv,List.take_succ_eq_append_getElem hil]);have hlen2:(l++zJ 4 (ns.take i)).length≤100000000:=(by rw [List.length_append,yK,List.length_take]; omega);have HC:=Hi (QM B b v 4 _ wr HW.out.1 (by omega) (by omega) hlen2 (by have:=HW.out.2.1.size; omega));clear hv hlen2;(go_wp2_with fail);refine HC.out.mono ?_;rintro e w1 ⟨rfl,hW1,hL1,hK1⟩;have HF:Hid (Wr B b (l++zJ 4 (ns.take (i+1))) w1∧Below B w w1∧Kept b w w1):=Hi ⟨by rw [HT.out,kV,← List.append_assoc]; exact hW1,HW.out.2.1.trans hL1,HW.out.2.2.trans hK1⟩;clear hW1 hL1 hK1 HC HW;go_wp2;go_roundg (n-(i+1))
    · exact ⟨i+1,by omega,rfl,by first | rfl | go_num,HF⟩
    · omega
  · have hcz : ¬ (i:Int)<(n:Int):=(by omega);have h9:i=n:=(by omega);subst h9;have HF:Hid (Wr B b (l++zJ 4 ns) wr∧Below B w wr∧Kept b w wr):=Hi (by
     have:=HW.out;rwa [List.take_of_length_le (by rw [HL.out]; omega)] at this)
    clear HW;go_wp2
    go_end0
    exact ⟨rfl,HF.out⟩
theorem zdY (a b:Nat) (ha:a<9223372036854775808) (hb:b<9223372036854775808):bits .or .i64 (a:Int) (b:Int)=((a ||| b:Nat):Int):=by
 show IntKind.i64.wrap ((BitVec.ofInt 64 (a:Int) ||| BitVec.ofInt 64 (b:Int)).toNat:Int)=_;rw [BitVec.toNat_or,xD 64 a (by omega),xD 64 b (by omega)];exact IntWalk.i64_in _ (by have:=Nat.or_lt_two_pow (n:=63) ha hb; omega)
theorem zd3 (m:Nat) (h:m≤511) (k:Nat) (hk:k=16384∨k=32768):bits .or .i64 (m:Int) (k:Int)=((m+k:Nat):Int):=by
 rw [zdY _ _ (by omega) (by omega),Nat.or_comm];rcases hk with rfl | rfl
 · rw [show 16384=2^14*1 from rfl,← Nat.two_pow_add_eq_or_of_lt (by omega),Nat.add_comm]
 · rw [show 32768=2^15*1 from rfl,← Nat.two_pow_add_eq_or_of_lt (by omega),Nat.add_comm]
theorem zjt (m:Nat) (h:m<100000):bits .or .i64 ((m*65536:Nat):Int) 16=((m*65536+16:Nat):Int):=by
 have:=zdY (m*65536) 16 (by omega) (by omega);rw [show ((16:Nat):Int)=16 from rfl] at this;rw [this,show m*65536=2^16*m by omega,← Nat.two_pow_add_eq_or_of_lt (by omega)]
theorem VV (k:Int) (w:World):Calls Tryz.prog 129 #[.int .i64 k] w fun e w'=>e = .returned (.int .i64 (if k=2 then 16384 else 32768))∧w=w':=by
 by_cases h:k=2
 · subst h;go_enter Tryz.func129,Tryz.ntmps129;go_wp2;go_ret;exact ⟨rfl,rfl⟩
 · have t1:(k==2)=false:=(by simpa using h);go_enter Tryz.func129,Tryz.ntmps129;go_wp2;go_ret;exact ⟨rfl,rfl⟩
theorem zgn (p:ByteArray) (m:Int) (sum:Nat) (l wh k:Int) (mdn t:Nat) (pos:Int) (hmd:mdn≤511) (w:World) :
 Calls Tryz.prog 121 #[.agg #[.string p,.int .i64 m,.int .u32 (sum:Nat),.int .i64 l,.int .i64 wh,.int .i64 k,.int .i64 (mdn:Nat),.int .u32 (t:Nat),.int .i64 pos]] w fun e w'=>e = .returned (.int .i64 (jP k mdn:Nat))∧Upd [] w w':=by
 have HK:=Hi (fun w=>VV k w);by_cases hk:k=2
 · subst hk;rw [if_pos rfl] at HK;have HO:=zd3 mdn hmd 16384 (.inl rfl);have HA:Hid (jP 2 mdn=(mdn+16384)*65536+16):=Hi rfl;have HD:=zjt (mdn+16384) (by omega);have HO':bits .or .i64 (mdn:Int) 16384=((mdn+16384:Nat):Int):=HO;go_enter Tryz.func121,Tryz.ntmps121;go_wp2
   go_quiet ((go_at_call 129; exact Calls.quiet_of_same ((HK.out _).mono fun _ _ ⟨h1,h2⟩=>⟨h1,h2.symm⟩)))
   go_wp2;go_ret;refine ⟨?_,((Upd.refl [] w).alloc _).drewN _⟩;rw [HA.out];have HD':bits .or .i64 (((mdn:Int)+16384)*65536) 16=(((mdn+16384)*65536+16:Nat):Int):=by rw [← HD]; congr 1
   exact congrArg (fun z=>Ending.returned (.int .i64 z)) HD'
 · rw [if_neg hk] at HK;have t2:(k==2)=false:=(by simpa using hk);have HO:=zd3 mdn hmd 32768 (.inr rfl);have HO':bits .or .i64 (mdn:Int) 32768=((mdn+32768:Nat):Int):=HO;have HA:Hid (jP k mdn=(mdn+32768)*65536):=Hi (if_neg hk);go_enter Tryz.func121,Tryz.ntmps121;go_wp2
   go_quiet ((go_at_call 129; exact Calls.quiet_of_same ((HK.out _).mono fun _ _ ⟨h1,h2⟩=>⟨h1,h2.symm⟩)))
   go_wp2;go_ret;refine ⟨?_,((Upd.refl [] w).alloc _).drewN _⟩;rw [HA.out];exact congrArg (fun z=>Ending.returned (.int .i64 z)) (show ((mdn:Int)+32768)*65536=(((mdn+32768)*65536:Nat):Int) by omega)
end Go.Proofs.YtfkenhihcmmgkaaGreatDoor
