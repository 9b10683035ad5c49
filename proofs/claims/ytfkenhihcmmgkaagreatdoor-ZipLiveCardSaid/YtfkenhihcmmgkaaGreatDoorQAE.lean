/- Readers of bits: plain mathematics, and the walks of bitio.Read, Fine, Left, Used, Bits, Align, Text. -/
import Derived.Test.YtfkenhihcmmgkaaGreatDoorQAD
set_option linter.unusedVariables false
set_option linter.unusedSimpArgs false
set_option linter.unusedSectionVars false
set_option maxRecDepth 100000
set_option maxHeartbeats 12800000
namespace Go.Proofs.YtfkenhihcmmgkaaGreatDoor
open Go.RowKit
def vz (s:ByteArray):List Bool:=yc (zf s)
theorem KG (s:ByteArray):(vz s).length=8*s.size:=by rw [vz,jh,zi]
def zz (s:ByteArray) (at_ n:Nat):Nat:=val (((vz s).drop at_).take n)
theorem jg (s:ByteArray) (a n:Nat):zz s a n<2^n:=zaZ _ _ _
theorem XO (s:ByteArray) (a:Nat):zz s a 0=0:=by simp [zz,val]
theorem VO (s:ByteArray) (a m n:Nat) (h:a+m≤8*s.size):zz s a (m+n)=zz s a m+2^m*zz s (a+m) n:=by
 unfold zz;have h1:((vz s).drop a).take (m+n)=((vz s).drop a).take m++((vz s).drop (a+m)).take n:=by
  rw [List.take_add,List.drop_drop]
 have h2:(((vz s).drop a).take m).length=m:=by rw [List.length_take,List.length_drop,KG]; omega
 rw [h1,vv,h2]
theorem YY (l:List Nat) (q:Nat):(yc l).drop (8*q)=yc (l.drop q):=by
 induction l generalizing q with
 | nil=>simp [yc]
 | cons x l ih =>
   cases q with
   | zero=>simp
   | succ q =>
     have e:yc (x::l)=low 8 x++yc l:=rfl;rw [e,show 8*(q+1)=(low 8 x).length+8*q by rw [zO]; omega,← List.drop_drop,List.drop_left,ih];rfl
theorem XG (s:ByteArray) (q f t:Nat) (hq:q<s.size) (hft:f+t≤8):zz s (8*q+f) t=s[q].toNat/2^f%2^t:=by
 have hb:q<(zf s).length:=by rw [zi]; exact hq
 have e1:(vz s).drop (8*q+f)=(yc ((zf s).drop q)).drop f:=by
  rw [← List.drop_drop,vz,YY]
 have e2:(zf s).drop q=(zf s)[q]::(zf s).drop (q+1):=List.drop_eq_getElem_cons hb;have e3:yc ((zf s).drop q)=low 8 (zf s)[q]++yc ((zf s).drop (q+1)):=by rw [e2]; rfl
 unfold zz;rw [e1,e3,List.drop_append_of_le_length (by rw [zO]; omega),List.take_append_of_le_length (by rw [List.length_drop,zO]; omega),WZ _ _ (by rw [List.length_drop,zO]; omega),zbk _ _ (by rw [zO]; omega),zdU,xd s q hq hb];have hlt:=s[q].toNat_lt;rw [Nat.mod_eq_of_lt hlt]
def RdAt (w:World) (b:Nat) (t:TypeId) (s:ByteArray) (at_:Nat) (bad:Bool):Prop:=Blk w b [.string s,.int .i64 (at_:Nat),.bool bad] t∧at_≤8*s.size
theorem RdAt.upd {w w':World} {b:Nat} {t:TypeId} {s:ByteArray} {at_:Nat} {bad:Bool} {fp:List Nat} (h:RdAt w b t s at_ bad) (hU:Upd fp w w') (hn:b∉fp):RdAt w' b t s at_ bad:=⟨h.1.upd hU hn,h.2⟩
def xh (s:ByteArray) (at_:Nat) (bad:Bool) (n:Int):Bool:=bad||decide (n<0)||decide (32<n)||decide (((8*s.size-at_:Nat):Int)<n)
def xg (s:ByteArray) (at_:Nat) (bad:Bool) (n:Int):Nat:=if xh s at_ bad n then 0 else zz s at_ n.toNat
def rdTo (s:ByteArray) (at_:Nat) (bad:Bool) (n:Int):Nat:=if xh s at_ bad n then at_ else at_+n.toNat
def xG (at_:Nat) (bad:Bool):Nat:=if bad then at_ else 8*((at_+7)/8)
def xA (s:ByteArray) (at_:Nat) (bad:Bool) (n:Int):Bool:=bad||decide (n<0)||decide (((s.size-(at_+7)/8:Nat):Int)<n)
def xC (s:ByteArray) (at_:Nat) (bad:Bool) (n:Int):ByteArray:=if xA s at_ bad n then ⟨#[]⟩ else s.extract ((at_+7)/8) ((at_+7)/8+n.toNat)
def jv (s:ByteArray) (at_:Nat) (bad:Bool) (n:Int):Nat:=if xA s at_ bad n then xG at_ bad else 8*((at_+7)/8)+8*n.toNat
theorem KY (s:ByteArray) (a:Nat) (bad:Bool) (h:a≤8*s.size):xG a bad≤8*s.size:=by unfold xG; split<;>omega
theorem zgK (s:ByteArray) (w:World):Calls Tryz.prog 175 #[.string s] w fun e w'=>e = .returned (.pointer (some ⟨w.heap.size,0,none⟩))∧w.alloc (.cells #[.string s,.int .i64 0,.bool false] 292)=w':=by
 go_enter Tryz.func175,Tryz.ntmps175;go_wp2;go_returns;exact ⟨rfl,rfl⟩
theorem zgD (w:World) (s:ByteArray) (t:TypeId):RdAt (w.alloc (.cells #[.string s,.int .i64 0,.bool false] t)) w.heap.size t s 0 false :=
 ⟨Blk.new w [.string s,.int .i64 0,.bool false] t,Nat.zero_le _⟩
theorem yn (b:Nat) (w:World) (t:TypeId) (s:ByteArray) (a:Nat) (bad:Bool) (hR:RdAt w b t s a bad) :
 Calls Tryz.prog 267 #[.pointer (some ⟨b,0,none⟩)] w fun e w'=>e = .returned (.bool (!bad))∧w=w':=by
 have h2:=hR.1.cell 2 rfl;go_enter Tryz.func267,Tryz.ntmps267;go_wp2;go_returns;exact ⟨rfl,rfl⟩
theorem QB (b:Nat) (w:World) (t:TypeId) (s:ByteArray) (a:Nat) (bad:Bool) (hR:RdAt w b t s a bad) (hs:s.size≤1099511627776) :
 Calls Tryz.prog 308 #[.pointer (some ⟨b,0,none⟩)] w fun e w'=>e = .returned (.int .i64 ((8*s.size-a:Nat):Int)) ∧ ∃ n,w'=w.drewN n:=by
 have hA:=hR.1.all;have hle:=hR.2;have he:Hid ((8*(s.size:Int)-(a:Int))=((8*s.size-a:Nat):Int)):=Hi (by omega);go_enter Tryz.func308,Tryz.ntmps308;go_wp2
 go_quiet (fail)
 go_wp2;go_returns;exact ⟨by rw [← he.out]; rfl,_,rfl⟩
theorem VZ (b:Nat) (w:World) (t:TypeId) (s:ByteArray) (a:Nat) (bad:Bool) (hR:RdAt w b t s a bad) (hs:s.size≤1099511627776) :
 Calls Tryz.prog 177 #[.pointer (some ⟨b,0,none⟩)] w fun e w'=>e = .returned (.int .i64 (((a+7)/8:Nat):Int))∧w=w':=by
 have h1:=hR.1.cell 1 rfl;have hle:=hR.2;go_enter Tryz.func177,Tryz.ntmps177;go_wp2;go_returns;have e:(((a:Int)+8-1)/8)=(((a+7)/8:Nat):Int):=by omega
 exact ⟨by rw [← e]; rfl,rfl⟩
def ve (w:World) (b:Nat) (t:TypeId) (s:ByteArray) (r:Value) (a':Nat) (bad':Bool) (e:Ending) (w':World):Prop :=
 e = .returned r∧RdAt w' b t s a' bad'∧Upd [b] w w'
def Qp (w:World) (b:Nat) (t:TypeId) (s:ByteArray) (a':Nat) (w':World):Prop:=RdAt w' b t s a' false∧Upd [b] w w'
theorem zkv (v g x f T:Nat) (hv:v<2^g) (hg:g+T≤32) (hx:x<256) (hT:T≤8) (hf:f≤7) :
 bits BinOp.or IntKind.u32 (v:Int) (bits BinOp.and IntKind.u32 ((x:Int)%4294967296/2^f) ((2^T-1)%4294967296)*2^g%4294967296)=((v+2^g*(x/2^f%2^T):Nat):Int):=by
 have hT1:1≤2^T:=Nat.one_le_two_pow;have hT2:2^T≤2^8:=Nat.pow_le_pow_right (by omega) hT;have e1:(x:Int)%4294967296/2^f=((x/2^f:Nat):Int):=by
  have:(x:Int)%4294967296=(x:Int):=by omega
  rw [this]; simp
 have e0:(2:Int)^T=((2^T:Nat):Int):=by simp
 have e2:((2:Int)^T-1)%4294967296=((2^T-1:Nat):Int):=by rw [e0]; omega
 have e3:(2:Int)^g=((2^g:Nat):Int):=by simp
 have hq:x/2^f≤255:=Nat.le_trans (Nat.div_le_self _ _) (by omega);rw [e1,e2,e3,u32_and_nat _ _ (by omega) (by omega),Nat.and_two_pow_sub_one_eq_mod];have h1:x/2^f%2^T<2^T:=Nat.mod_lt _ (by omega);have h2:x/2^f%2^T*2^g<2^T*2^g:=Nat.mul_lt_mul_of_pos_right h1 (Nat.two_pow_pos _);have h3:2^T*2^g≤2^32:=by rw [← Nat.pow_add]; exact Nat.pow_le_pow_right (by omega) (by omega)
 have h4:2^g≤2^32:=Nat.pow_le_pow_right (by omega) (by omega);generalize x/2^f%2^T=y at *;have h5:((y:Int)*((2^g:Nat):Int))%4294967296=((y*2^g:Nat):Int):=by rw [← Int.natCast_mul]; omega
 rw [h5,u32_or_nat _ _ (by omega) (by omega),Nat.or_comm,zdA.nat_join' y v g hv]
theorem JL (b:Nat) (n:Int) (w:World) (s:ByteArray) (a:Nat) (bad:Bool) (hR:RdAt w b 292 s a bad) (hs:s.size≤1099511627776) :
 Calls Tryz.prog 266 #[.pointer (some ⟨b,0,none⟩),.int .i64 n] w
  (ve w b 292 s (.int .u32 (xg s a bad n:Nat)) (rdTo s a bad n) (xh s a bad n)):=by
 have HF:=Hi (yn b w _ s a bad hR);have h2:=hR.1.cell 2 rfl;have f2:=hR.1.frz 2;cases hb:xh s a bad n with
 | true =>
   have e1:xg s a bad n=0:=(by unfold xg; rw [if_pos hb]);have e2:rdTo s a bad n=a:=(by unfold rdTo; rw [if_pos hb]);rw [e1,e2];cases bad with
   | true =>
     go_enter Tryz.func266,Tryz.ntmps266;(go_wp2_with fail);refine HF.out.mono ?_;rintro e w' ⟨rfl,rfl⟩;go_wp2;go_returns;exact ⟨rfl,hR,.refl _ _⟩
   | false =>
     have hw1:RdAt (w.setCell ⟨b,2,none⟩ (.bool true)) b 292 s a true:=⟨hR.1.set 2 _,hR.2⟩;have hU1:Upd [b] w (w.setCell ⟨b,2,none⟩ (.bool true)):=(Upd.refl _ _).setCell (.inl (by simp)) _;simp only [xh,Bool.false_or,Bool.or_eq_true,decide_eq_true_eq] at hb;by_cases hn:n<0
     · clear hb e1 e2;go_enter Tryz.func266,Tryz.ntmps266;(go_wp2_with fail);refine HF.out.mono ?_;rintro e w' ⟨rfl,rfl⟩;go_wp2;go_returns;exact ⟨rfl,hw1,hU1⟩
     · by_cases hn2:32<n
       · clear hb e1 e2;go_enter Tryz.func266,Tryz.ntmps266;(go_wp2_with fail);refine HF.out.mono ?_;rintro e w' ⟨rfl,rfl⟩;go_wp2;go_returns;exact ⟨rfl,hw1,hU1⟩
       · have hn3:((8*s.size-a:Nat):Int)<n:=(by omega);have HL:=Hi (QB b w _ s a false hR hs);have hw1' : ∀ k,RdAt ((w.drewN k).setCell ⟨b,2,none⟩ (.bool true)) b 292 s a true:=fun k=>⟨(hR.1.drewN k).set 2 _,hR.2⟩;have hU1' : ∀ k,Upd [b] w ((w.drewN k).setCell ⟨b,2,none⟩ (.bool true)):=fun k=>((Upd.refl _ _).drewN k).setCell (.inl (by simp)) _;have H1:=Hi hw1';have H2:=Hi hU1';clear hb hw1' hU1' e1 e2;generalize 8*s.size-a=q at *;go_enter Tryz.func266,Tryz.ntmps266;(go_wp2_with fail);refine HF.out.mono ?_;rintro e w' ⟨rfl,rfl⟩;(go_wp2_with fail);refine HL.out.mono ?_;rintro e w' ⟨rfl,k,rfl⟩;go_wp2;go_returns;exact ⟨rfl,H1.out k,H2.out k⟩
 | false =>
   have e0:=hb;simp only [xh,Bool.or_eq_false_iff,decide_eq_false_iff_not] at hb;obtain ⟨⟨⟨rfl,hn0⟩,hn32⟩,hnl⟩:=hb;have e1:xg s a false n=zz s a n.toNat:=(by unfold xg; rw [if_neg (by rw [e0]; decide)]);have e2:rdTo s a false n=a+n.toNat:=(by unfold rdTo; rw [if_neg (by rw [e0]; decide)]);rw [e1,e2];obtain ⟨N,rfl⟩ : ∃ N:Nat,n=(N:Int):=⟨n.toNat,by omega⟩;have hN:a+N≤8*s.size:=(by have:=hR.2; omega);have hN32:N≤32:=(by omega);rw [Int.toNat_natCast];have HL:=Hi (QB b w _ s a false hR hs);have hnl2:(N:Int)≤((8*s.size-a:Nat):Int):=(by omega);clear e0 e1 e2 hnl hn32 hn0;generalize 8*s.size-a=q at *;have d1:decide ((N:Int)<0)=false:=(by simp);have d2:decide ((32:Int)<(N:Int))=false:=(by simp; omega);have d3:decide (q<N)=false:=(by simp; omega);have hR0 : ∀ k,Qp w b 292 s (a+0) (w.drewN k):=fun k=>⟨⟨hR.1.drewN k,by have:=hR.2; omega⟩,(Upd.refl _ _).drewN k⟩;have H0:=Hi hR0;clear hR0;go_enter Tryz.func266,Tryz.ntmps266;go_wp2_with fail
   refine HF.out.mono ?_;rintro e w' ⟨rfl,rfl⟩;go_wp2_with fail
   refine HL.out.mono ?_;rintro e w' ⟨rfl,k,rfl⟩;have hRk:=H0.out k;clear HF HL h2 f2 H0;generalize w.drewN k=w1 at *;go_wp2;clear hnl2;go_loopg [4,5] N (fun gg s4 s5 wr => ∃ g,g≤N∧gg=N-g∧s5 = .int .i64 (g:Nat)∧s4 = .int .u32 (zz s a g:Nat)∧Qp w b 292 s (a+g) wr)
   case atStart=>exact ⟨0,by omega,rfl,rfl,by rw [XO]; rfl,hRk⟩
   case round =>
    obtain ⟨g,hg,rfl,rfl,rfl,hRr,hU⟩:=hrel;clear hRk;have kA:=hRr.1.all;have k2:=hRr.1.frz 1;by_cases hc:g<N
    · have hcz:(g:Int)<(N:Int):=(by omega);obtain ⟨c,f,hcf,hf7⟩ : ∃ c f,a+g=8*c+f∧f≤7:=⟨(a+g)/8,(a+g)%8,by omega,by omega⟩;obtain ⟨T,hT,hT8⟩ : ∃ T,T=min (8-f) (N-g)∧T≤8:=⟨_,rfl,by omega⟩;have hcs:c<s.size:=(by omega);have hval:=Hi (VO s a g T (by omega));have hbyte:=XG s c f T hcs (by omega);rw [← hcf] at hbyte;rw [hbyte] at hval;have hvl:=jg s a g;have hor:=Hi (zkv (zz s a g) g s[c].toNat f T hvl (by omega) s[c].toNat_lt hT8 hf7);have hmod:((a+g:Nat):Int)%8=(f:Int):=(by omega);have hdiv:((a+g:Nat):Int)/8=(c:Int):=(by omega);have hcs2:(c:Int)<(s.size:Int):=(by omega);have hagb:((a+g:Nat):Int)≤8796093022208:=(by have:=hRr.2; omega);generalize zz s a g=v at *;generalize hag:a+g=ag at *;have HAG:=Hi hag;have HCF:=Hi hcf;have HT:=Hi hT;clear hag hbyte hcf hT;(go_upto_region 9 with fail);go_cut [6,7] (fun s6 s7 wx=>s6 = .int .i64 (f:Nat)∧s7 = .int .i64 (T:Nat)∧wr=wx)
      case first =>
       go_wp2;(all_goals go_meet);all_goals (have hTo:=HT.out; refine ⟨?_,?_,?_⟩<;>first | rfl | (congr 1; done) | (congr 1; omega))
      case rest =>
       obtain ⟨rfl,rfl,rfl⟩:=hcut;go_wp2
       go_quiet (fail)
       go_wp2;go_roundg (N-(g+T))
       case measure=>have:=HT.out; omega
       case rel =>
        refine ⟨g+T,by have:=HT.out; omega,rfl,by go_num,by rw [hval.out,← hor.out],?_,?_⟩
        · have e:(ag:Int)+(T:Int)=((a+(g+T):Nat):Int):=(by have:=HAG.out; omega);rw [e];exact ⟨(hRr.1.drewN _).set 1 _,by have:=HAG.out; have:=HT.out; omega⟩
        · exact (hU.drewN _).setCell (.inl (by simp)) _
    · have hgN:g=N:=(by omega);have hcz : ¬ (g:Int)<(N:Int):=(by omega);rw [hgN] at hRr ⊢;have hcz2 : ¬ (N:Int)<(N:Int):=(by omega);clear hcz hgN;generalize zz s a N=v at *;go_wp2;go_returns;exact ⟨rfl,hRr,hU⟩
theorem Ys (b:Nat) (w:World) (s:ByteArray) (a:Nat) (bad:Bool) (hR:RdAt w b 292 s a bad) (hs:s.size≤1099511627776) :
 Calls Tryz.prog 268 #[.pointer (some ⟨b,0,none⟩)] w
  (ve w b 292 s (.tuple #[]) (xG a bad) bad):=by
 have HF:=Hi (yn b w _ s a bad hR);have HU:=Hi (VZ b w _ s a bad hR hs);cases bad with
 | true =>
   go_enter Tryz.func268,Tryz.ntmps268;go_wp2_with fail
   refine HF.out.mono ?_;rintro e w' ⟨rfl,rfl⟩;go_wp2;go_returns;exact ⟨rfl,hR,.refl _ _⟩
 | false =>
   have k1:=hR.1.cell 1 rfl;have f1:=hR.1.frz 1;have hle:=hR.2;have hq:((a+7)/8:Nat)≤1099511627776:=(by omega);have hal:=Hi (show xG a false=8*((a+7)/8) by rfl);have hal2:=KY s a false hle;clear hle;generalize (a+7)/8=q at *;go_enter Tryz.func268,Tryz.ntmps268;go_wp2_with fail
   refine HF.out.mono ?_;rintro e w' ⟨rfl,rfl⟩;go_wp2_with fail
   refine HU.out.mono ?_;rintro e w' ⟨rfl,rfl⟩;go_wp2;go_returns;have e:(8*(q:Int))=((xG a false:Nat):Int):=(by have:=hal.out; omega);rw [e];exact ⟨rfl,⟨hR.1.set 1 _,hal2⟩,(Upd.refl _ _).setCell (.inl (by simp)) _⟩
theorem zfA (b:Nat) (n:Int) (w:World) (s:ByteArray) (a:Nat) (bad:Bool) (hR:RdAt w b 292 s a bad) (hs:s.size≤1099511627776) :
 Calls Tryz.prog 269 #[.pointer (some ⟨b,0,none⟩),.int .i64 n] w
  (ve w b 292 s (.string (xC s a bad n)) (jv s a bad n) (xA s a bad n)):=by
 have HA:=Hi (Ys b w s a bad hR hs);have hal:=KY s a bad hR.2;cases bad with
 | true =>
   have e1:xA s a true n=true:=rfl;have e2:xC s a true n=⟨#[]⟩:=rfl;have e3:jv s a true n=xG a true:=rfl;rw [e1,e2,e3];generalize xG a true=a1 at *;go_enter Tryz.func269,Tryz.ntmps269;go_wp2_with fail
   refine HA.out.mono ?_;rintro e w' ⟨rfl,hR1,hU1⟩;go_wp2_with fail
   refine (yn b w' _ s _ true hR1).mono ?_;rintro e w2 ⟨rfl,rfl⟩;go_wp2;go_returns;exact ⟨rfl,hR1,hU1⟩
 | false =>
   have hq:(a+7)/8≤s.size:=(by have:=hR.2; omega);have ha1:xG a false=8*((a+7)/8):=rfl;have HBD:=Hi (fun (h:xA s a false n=true)=>(show xC s a false n=⟨#[]⟩∧jv s a false n=xG a false by unfold xC jv; rw [if_pos h,if_pos h]; exact ⟨rfl,rfl⟩));have HGD:=Hi (fun (h:xA s a false n=false)=>(show xC s a false n=s.extract ((a+7)/8) ((a+7)/8+n.toNat)∧jv s a false n=8*((a+7)/8)+8*n.toNat by unfold xC jv; rw [if_neg (by rw [h]; decide),if_neg (by rw [h]; decide)]; exact ⟨rfl,rfl⟩));have hTB:xA s a false n=(decide (n<0)||decide (((s.size-(a+7)/8:Nat):Int)<n)):=(by simp [xA]);generalize (a+7)/8=q at *;have H8:Hid (8*s.size-xG a false=8*(s.size-q)):=Hi (by omega);have HQ:=Hi ha1;clear ha1;generalize xG a false=a1 at *;cases hb:xA s a false n with
   | true =>
     obtain ⟨e1,e2⟩:=HBD.out hb;rw [e1,e2];rw [hTB] at hb;simp only [Bool.or_eq_true,decide_eq_true_eq] at hb;clear e1 e2 hTB HBD HGD;by_cases hn:n<0
     · clear hb;go_enter Tryz.func269,Tryz.ntmps269;(go_wp2_with fail);refine HA.out.mono ?_;rintro e w' ⟨rfl,hR1,hU1⟩;have k2:=hR1.1.cell 2 rfl;have f2:=hR1.1.frz 2;(go_wp2_with fail);refine (yn b w' _ s _ false hR1).mono ?_;rintro e w2 ⟨rfl,rfl⟩;go_wp2;go_returns;exact ⟨rfl,⟨hR1.1.set 2 _,hR1.2⟩,hU1.setCell (.inl (by simp)) _⟩
     · have hn2:((s.size-q:Nat):Int)<n:=(by omega);have hsq:s.size-q≤1099511627776:=(by omega);clear hb;go_enter Tryz.func269,Tryz.ntmps269;(go_wp2_with fail);refine HA.out.mono ?_;rintro e w' ⟨rfl,hR1,hU1⟩;have k2:=hR1.1.cell 2 rfl;have f2:=hR1.1.frz 2;(go_wp2_with fail);refine (yn b w' _ s _ false hR1).mono ?_;rintro e w2 ⟨rfl,rfl⟩;have HL:=QB b w' _ s a1 false hR1 hs;rw [H8.out] at HL;have hdv:((8*(s.size-q):Nat):Int)/8=((s.size-q:Nat):Int):=(by omega);generalize s.size-q=r at *;(go_wp2_with fail);refine HL.mono ?_;rintro e w2 ⟨rfl,k,rfl⟩;generalize 8*r=r8 at *;go_wp2;go_returns;exact ⟨rfl,⟨(hR1.1.drewN k).set 2 _,hR1.2⟩,(hU1.drewN k).setCell (.inl (by simp)) _⟩
   | false =>
     obtain ⟨e1,e2⟩:=HGD.out hb;rw [e1,e2];rw [hTB] at hb;simp only [Bool.or_eq_false_iff,decide_eq_false_iff_not] at hb;obtain ⟨hn0,hn1⟩:=hb;obtain ⟨N,rfl⟩ : ∃ N:Nat,n=(N:Int):=⟨n.toNat,by omega⟩;have hN:q+N≤s.size:=(by omega);rw [Int.toNat_natCast];have d1:decide ((N:Int)<0)=false:=(by simp);have hsq:s.size-q≤1099511627776:=(by omega);have hnr:N≤s.size-q:=(by omega);clear e1 e2 hTB HBD HGD hn0 hn1;go_enter Tryz.func269,Tryz.ntmps269;(go_wp2_with fail);refine HA.out.mono ?_;rintro e w' ⟨rfl,hR1,hU1⟩;(go_wp2_with fail);refine (yn b w' _ s _ false hR1).mono ?_;rintro e w2 ⟨rfl,rfl⟩;have HL:=QB b w' _ s a1 false hR1 hs;rw [H8.out] at HL;have hdv:((8*(s.size-q):Nat):Int)/8=((s.size-q:Nat):Int):=(by omega);have hdv2:((a1:Nat):Int)/8=(q:Int):=(by have:=HQ.out; omega);generalize s.size-q=r at *;have d3:decide (r<N)=false:=(by simp; omega);(go_wp2_with fail);refine HL.mono ?_;rintro e w2 ⟨rfl,k,rfl⟩;have kA:=hR1.1.all;have f1:=hR1.1.frz 1;generalize 8*r=r8 at *;have ha1b:a1≤8796093022208:=(by omega);go_wp2;go_returns;have e:(a1:Int)+8*(N:Int)=((8*q+8*N:Nat):Int):=(by have:=HQ.out; omega);rw [e];exact ⟨rfl,⟨(hR1.1.drewN k).set 1 _,by omega⟩,(hU1.drewN k).setCell (.inl (by simp)) _⟩
theorem zdV {k:IntKind} {a b:Int} (h:a=b):Ending.returned (.int k a) = .returned (.int k b):=by rw [h]
theorem zf3 (s:ByteArray) (i:Nat) (h:i<8*s.size):zz s i 1=(s[i/8]'(by omega)).toNat/2^(i%8)%2:=by
 have:=XG s (i/8) (i%8) 1 (by omega) (by omega);rw [show 8*(i/8)+i%8=i by omega] at this;exact this
theorem ziJ (s:ByteArray) (i:Nat) (w:World) (h:i<8*s.size) (hs:s.size≤1099511627776) :
 Calls Tryz.prog 235 #[.string s,.int .i64 (i:Nat)] w fun e w'=>e = .returned (.int .u32 (zz s i 1:Nat))∧w=w':=by
 have hv:=Hi (zf3 s i h);obtain ⟨q,f,hqf,hf⟩ : ∃ q f,i=8*q+f∧f≤7:=⟨i/8,i%8,by omega,by omega⟩;have hq:i/8=q:=by omega
 have hm:i%8=f:=by omega
 have hqs:q<s.size:=by omega
 have hbv:Hid (zz s i 1=s[q].toNat/2^f%2):=Hi (by rw [hv.out]; subst hq hm; rfl);have h1:(i:Int)/8=(q:Int):=by omega
 have h2:(i:Int)%8=(f:Int):=by omega
 have hqz:(q:Int)<(s.size:Int):=by omega
 have hlt:=s[q].toNat_lt;clear hq hm hv hqf;generalize zz s i 1=r at *;go_enter Tryz.func235,Tryz.ntmps235;go_wp2;have hx:s[q].toNat≤255:=by omega
 clear hlt;generalize s[q].toNat=x at *;go_loopg [5,6] f (fun g s5 s6 wx => ∃ k,k≤f∧g=f-k∧s6 = .int .i64 (k:Nat)∧s5 = .int .i64 ((x/2^k:Nat):Int)∧w=wx)
 case atStart=>exact ⟨0,by omega,rfl,rfl,by simp; try omega,rfl⟩
 case round =>
  obtain ⟨k,hk,rfl,rfl,rfl,rfl⟩:=hrel;have hxk:x/2^k≤255:=Nat.le_trans (Nat.div_le_self _ _) hx;by_cases hc:k<f
  · have hcz:(k:Int)<(f:Int):=(by omega);have hd:=Hi (show x/2^k/2=x/2^(k+1) by rw [Nat.div_div_eq_div_mul,Nat.pow_succ]);generalize x/2^k=y at *;go_wp2;go_roundg (f-(k+1))
    case measure=>omega
    case rel=>exact ⟨k+1,by omega,rfl,by go_num,by rw [← hd.out]; simp,rfl⟩
  · have hcz : ¬ (k:Int)<(f:Int):=(by omega);have hkf:k=f:=(by omega);rw [← hkf] at hbv;generalize x/2^k=y at *;clear hkf;go_wp2;go_returns;exact ⟨zdV (by have:=hbv.out; omega),rfl⟩
theorem zix (v o r i:Nat) (hv:v<2^i) (ho:o=2^i) (hi:i<32) (hr:r<2):v+o*r<2^(i+1)∧2*o=2^(i+1)∧2^(i+1)≤4294967296:=by
 subst ho;have h3:2^(i+1)≤2^32:=Nat.pow_le_pow_right (by omega) (by omega);have h4:2^i*r≤2^i*1:=Nat.mul_le_mul_left _ (by omega);rw [Nat.pow_succ] at *;omega
theorem JT (b:Nat) (n:Int) (w:World) (s:ByteArray) (a:Nat) (bad:Bool) (hR:RdAt w b 175 s a bad) (hs:s.size≤1099511627776) :
 Calls Tryz.prog 179 #[.pointer (some ⟨b,0,none⟩),.int .i64 n] w
  (ve w b 175 s (.int .u32 (xg s a bad n:Nat)) (rdTo s a bad n) (xh s a bad n)):=by
 have h0:=hR.1.cell 0 rfl;have h1:=hR.1.cell 1 rfl;have h2:=hR.1.cell 2 rfl;have f2:=hR.1.frz 2;cases hb:xh s a bad n with
 | true =>
   have e1:xg s a bad n=0:=(by unfold xg; rw [if_pos hb]);have e2:rdTo s a bad n=a:=(by unfold rdTo; rw [if_pos hb]);rw [e1,e2];have hfin : ∀ k,ve w b 175 s (.int .u32 0) a true (.returned (.int .u32 0)) ((w.drewN k).setCell ⟨b,2,none⟩ (.bool true)):=fun k =>
    ⟨rfl,⟨(hR.1.drewN k).set 2 _,hR.2⟩,((Upd.refl _ _).drewN k).setCell (.inl (by simp)) _⟩
   have H1:=Hi hfin;clear hfin e1 e2;cases bad with
   | true =>
     clear hb;go_enter Tryz.func179,Tryz.ntmps179;go_wp2
     go_quiet (fail)
     go_wp2;go_returns;exact H1.out _
   | false =>
     simp only [xh,Bool.false_or,Bool.or_eq_true,decide_eq_true_eq] at hb;by_cases hn:n<0
     · have d1:decide (n<0)=true:=(by simpa using hn);clear hb hn;go_enter Tryz.func179,Tryz.ntmps179;go_wp2
       go_quiet (fail)
       go_wp2;go_returns;exact H1.out _
     · have d1:decide (n<0)=false:=(by simpa using hn);by_cases hn2:32<n
       · have d2:decide (32<n)=true:=(by simpa using hn2);clear hb;go_enter Tryz.func179,Tryz.ntmps179;go_wp2
         go_quiet (fail)
         go_wp2;go_returns;exact H1.out _
       · have d2:decide (32<n)=false:=(by simpa using hn2);have hle:=hR.2;have hn3:8*(s.size:Int)-(a:Int)<n:=(by omega);have d3:decide (8*(s.size:Int)-(a:Int)<n)=true:=(by simpa using hn3);clear hb;go_enter Tryz.func179,Tryz.ntmps179;go_wp2
         go_quiet (fail)
         go_wp2;go_returns;exact H1.out _
 | false =>
   have e0:=hb;simp only [xh,Bool.or_eq_false_iff,decide_eq_false_iff_not] at hb;obtain ⟨⟨⟨rfl,hn0⟩,hn32⟩,hnl⟩:=hb;have e1:xg s a false n=zz s a n.toNat:=(by unfold xg; rw [if_neg (by rw [e0]; decide)]);have e2:rdTo s a false n=a+n.toNat:=(by unfold rdTo; rw [if_neg (by rw [e0]; decide)]);rw [e1,e2];obtain ⟨N,rfl⟩ : ∃ N:Nat,n=(N:Int):=⟨n.toNat,by omega⟩;have hle:=hR.2;have hN:a+N≤8*s.size:=(by omega);have hN32:N≤32:=(by omega);rw [Int.toNat_natCast];have d1:decide ((N:Int)<0)=false:=(by simp);have d2:decide ((32:Int)<(N:Int))=false:=(by simp; omega);have d3:decide (8*(s.size:Int)-(a:Int)<(N:Int))=false:=(by simp; omega);have hRel : ∀ k,Qp w b 175 s (a+0) (w.drewN k):=fun k=>⟨⟨hR.1.drewN k,by omega⟩,(Upd.refl _ _).drewN k⟩;have H0:=Hi hRel;clear hRel e0 e1 e2 hnl hn32 hn0;go_enter Tryz.func179,Tryz.ntmps179;go_wp2
   go_quiet (fail)
   have hRk:=H0.out nq;clear H0 h0 h1 h2 f2;generalize w.drewN nq=w1 at *;go_wp2;go_loopg [5,6,7] N (fun g s5 s6 s7 wr => ∃ i,i≤N∧g=N-i∧s7 = .int .i64 (i:Nat)∧s5 = .int .u64 (zz s a i:Nat)∧s6 = .int .u64 ((2^i:Nat):Int)∧Qp w b 175 s (a+i) wr)
   case atStart=>exact ⟨0,by omega,rfl,rfl,by rw [XO]; rfl,rfl,hRk⟩
   case round =>
    obtain ⟨i,hi,rfl,rfl,rfl,rfl,hRr,hU⟩:=hrel;clear hRk;have k0:=hRr.1.cell 0 rfl;have k1:=hRr.1.cell 1 rfl;have g1:=hRr.1.frz 1;have hvl:=jg s a i;by_cases hc:i<N
    · have hcz:(i:Int)<(N:Int):=(by omega);have hB:=fun w'=>ziJ s (a+i) w' (by omega) hs;have HB:=Hi hB;have hbl:=jg s (a+i) 1;have hst:=zix (zz s a i) (2^i) (zz s (a+i) 1) i hvl rfl (by omega) (by omega);have hsum:=Hi (VO s a i 1 (by omega));have hpw:=Hi hst.2.1;have hag:a+i≤8796093022208:=(by omega);obtain ⟨ag,hag2⟩ : ∃ x,x=a+i:=⟨_,rfl⟩;rw [← hag2] at HB k1 hbl hst hsum hag;have HAG:=Hi hag2;clear hB hag2;generalize zz s a i=v at *;generalize zz s ag 1=r at *;obtain ⟨p,hp⟩ : ∃ p,p=2^i:=⟨_,rfl⟩;rw [← hp] at hst hsum hpw hvl ⊢;obtain ⟨hst1,hst2,hst3⟩:=hst;have hb0:((v+p*r:Nat):Int)≤4294967296:=(by omega);have hb1:(v:Int)+(p:Int)*(r:Int)≤4294967296:=(by simpa using hb0);have hb2:(0:Int)≤(p:Int)*(r:Int):=Int.mul_nonneg (by omega) (by omega);have hb3:(p:Int)≤4294967296:=(by omega);clear hp hst2 hst1 hst3 hvl hb0;go_wp2
      go_quiet ((go_at_call 235; exact Calls.quiet_of_same ((HB.out _).mono fun e w' ⟨he,hw⟩=>⟨he,hw.symm⟩)))
      go_wp2;go_roundg (N-(i+1))
      case measure=>omega
      case rel =>
       refine ⟨i+1,by omega,rfl,by go_num,?_,?_,?_,?_⟩
       · rw [hsum.out]; simp
       · rw [← hpw.out]; simp
       · have e:(ag:Int)+1=((a+(i+1):Nat):Int):=(by have:=HAG.out; omega);rw [e];exact ⟨(hRr.1.drewN _).set 1 _,by omega⟩
       · exact (hU.drewN _).setCell (.inl (by simp)) _
    · have hiN:i=N:=(by omega);rw [hiN] at hRr hvl ⊢;have hcz2 : ¬ (N:Int)<(N:Int):=(by omega);have hp32:2^N≤2^32:=Nat.pow_le_pow_right (by omega) (by omega);have hv32:zz s a N<4294967296:=(by omega);clear hiN hvl hc;generalize zz s a N=v at *;generalize 2^N=p at *;go_wp2;go_returns;exact ⟨zdV (by omega),hRr,hU⟩
def xU (n:List Nat) (s:ByteArray):Nat→Nat→Nat→Nat→Option Nat×Nat×Bool
 | 0,_,a,_=>(none,a,false)
 | f+1,k,a,c=>if a<8*s.size then
  match qy n k (2*c+zz s a 1) with
  | some x=>(some x,a+1,false)
  | none=>xU n s f (k+1) (a+1) (2*c+zz s a 1)
   else (none,a,true)
def nxt (n:List Nat) (s:ByteArray) (a:Nat) (bad:Bool):Option Nat×Nat×Bool:=if bad then (none,a,true) else xU n s 15 1 a 0
theorem kJ {n:List Nat} {s:ByteArray} {f k a c:Nat} (h : ¬ a<8*s.size):xU n s (f+1) k a c=(none,a,true):=by simp [xU,h]
theorem jz {n:List Nat} {s:ByteArray} {f k a c x:Nat} (h:a<8*s.size) (hx:qy n k (2*c+zz s a 1)=some x):xU n s (f+1) k a c=(some x,a+1,false):=by simp [xU,h,hx]
theorem jy {n:List Nat} {s:ByteArray} {f k a c:Nat} (h:a<8*s.size) (hx:qy n k (2*c+zz s a 1)=none):xU n s (f+1) k a c=xU n s f (k+1) (a+1) (2*c+zz s a 1):=by simp [xU,h,hx]
theorem zh9 (n:List Nat) (s:ByteArray) (f k a c:Nat) (h:a≤8*s.size):a≤(xU n s f k a c).2.1∧(xU n s f k a c).2.1≤8*s.size∧(xU n s f k a c).2.1≤a+f:=by
 induction f generalizing k a c with
 | zero=>exact ⟨Nat.le_refl _,h,Nat.le_refl _⟩
 | succ f ih =>
   by_cases h1:a<8*s.size
   · cases hx:qy n k (2*c+zz s a 1) with
     | some x=>rw [jz h1 hx]; exact ⟨by simp,by simp; omega,by simp⟩
     | none =>
       rw [jy h1 hx];have:=ih (k+1) (a+1) (2*c+zz s a 1) (by omega);omega
   · rw [kJ h1]; exact ⟨by simp,h,by simp⟩
theorem zbQ (c r:Nat) (hc:c≤1073741824) (hr:r<2):bits BinOp.or IntKind.i64 ((2*c:Nat):Int) (r:Int)=((2*c+r:Nat):Int):=by
 rw [bits_join .i64 63 (by decide) (fun n h0 h1=>by rw [IntWalk.i64_in n (by omega)]) 1 _ _ (by omega) (by omega) (by omega) (by omega) (by omega) (by omega)];simp
def Zl (r:Option Nat×Nat×Bool):Value := .tuple #[.int .i64 ((r.1.getD 0:Nat):Int),.bool r.1.isSome]
theorem zhd (b:Value) (w:World) :
 Calls Tryz.prog 311 #[.pointer none,b] w fun e w'=>e = .returned (.tuple #[.int .i64 0,.bool false])∧w=w':=by
 go_enter Tryz.func311,Tryz.ntmps311;go_wp2;go_returns;exact ⟨rfl,rfl⟩
theorem zge (d b:Nat) (v:Value) (n:List Nat) (w:World) (s:ByteArray) (a:Nat) (bad:Bool) (hD:DcAt w d v n) (hR:RdAt w b 292 s a bad) (hs:s.size≤1099511627776)
 (hne:d≠b) (hvb:v.ownBlock≠some b) (hps:je n 16≤32768) (hn:n.length≤300) :
 Calls Tryz.prog 311 #[.pointer (some ⟨d,0,none⟩),.pointer (some ⟨b,0,none⟩)] w
  (ve w b 292 s (Zl (nxt n s a bad)) (nxt n s a bad).2.1 (nxt n s a bad).2.2):=by
 cases bad with
 | true =>
   have HB:=Hi (JL b 1 w s a true hR hs);have e1:nxt n s a true=(none,a,true):=rfl;rw [e1];have e2:xh s a true 1=true:=rfl;have e3:rdTo s a true 1=a:=rfl;have e4:xg s a true 1=0:=rfl;rw [e2,e3,e4] at HB;clear e1 e2 e3 e4;go_enter Tryz.func311,Tryz.ntmps311;go_wp2;refine wp_loop_rounds 1 ?_;rw [rounds_succ];go_wp2_with fail
   refine HB.out.mono ?_;rintro e w1 ⟨rfl,hR1,hU1⟩;go_wp2_with fail
   refine (yn b w1 _ s a true hR1).mono ?_;rintro e w2 ⟨rfl,rfl⟩;go_wp2;go_returns;exact ⟨rfl,hR1,hU1⟩
 | false =>
   have e1:nxt n s a false=xU n s 15 1 a 0:=rfl;rw [e1];have hpb:=Hi (fun k hk=>Ji n hps k hk);have hle:=hR.2;have hRel0:Qp w b 292 s (a+0) w:=⟨hR,.refl _ _⟩;have HD:=Hi (fun w' (hU:Upd [b] w w')=>hD.upd hU (by simpa using hne) (fun k hk hm=>hvb (by simp at hm; rw [hk,hm])));clear hps e1 hR hD hne hvb;go_enter Tryz.func311,Tryz.ntmps311;go_wp2;go_loopg [6,7,8,9] 15 (fun g s6 s7 s8 s9 wr => ∃ j c,j≤15∧g=15-j∧s9 = .int .i64 ((j+1:Nat):Int)∧s6 = .int .i64 ((2*c:Nat):Int)∧s7 = .int .i64 (fst n (j+1):Nat)∧s8 = .int .i64 ((zU n (j+1)).length:Nat)∧c<2^j∧fst n (j+1)≤2*c∧a+j≤8*s.size∧xU n s 15 1 a 0=xU n s (15-j) (j+1) (a+j) c∧Qp w b 292 s (a+j) wr)
   case atStart=>exact ⟨0,0,by omega,rfl,rfl,rfl,rfl,by rw [zao]; rfl,by simp,by simp [fst,cnt],by omega,rfl,hRel0⟩
   case round =>
    obtain ⟨j,c,hj,rfl,rfl,rfl,rfl,rfl,hc2,hfc,haj,hnx,hRr,hU⟩:=hrel;clear hRel0;by_cases hc:j<15
    · have hcz:(j:Int)+1≤15:=(by omega);have hp15:2^j≤2^15:=Nat.pow_le_pow_right (by omega) (by omega);have HB:=Hi (JL b 1 wr s (a+j) false hRr hs);by_cases hend:a+j<8*s.size
      · have e2:xh s (a+j) false 1=false:=(by simp [xh]; omega);have e3:rdTo s (a+j) false 1=a+j+1:=(by unfold rdTo; rw [e2]; rfl);have e4:xg s (a+j) false 1=zz s (a+j) 1:=(by unfold xg; rw [e2]; rfl);rw [e2,e3,e4] at HB;have hbl:=jg s (a+j) 1;have hfk:=hpb.out (j+1) (by omega);have hp16:2^(j+1)=2*2^j:=(by rw [Nat.pow_succ,Nat.mul_comm]);have hor:=zbQ c (zz s (a+j) 1) (by omega) (by omega);have hsy1:=kG n (j+1);have hsy2:(j+1)*n.length≤15*300:=Nat.mul_le_mul (by omega) (by omega);have hsn:=Hi (JG n (j+1) (by omega));have hfn:=Hi (show fst n (j+1+1)=2*(fst n (j+1)+cnt n (j+1)) by rfl);by_cases hlt:2*c+zz s (a+j) 1<fst n (j+1)+cnt n (j+1)
        · have hsome:qy n (j+1) (2*c+zz s (a+j) 1)=some ((idx n (j+1) n.length).getD (2*c+zz s (a+j) 1-fst n (j+1)) 0):=by
           unfold qy; rw [if_pos ⟨by omega,hlt⟩]
          rw [show 15-j=(14-j)+1 by omega,jz hend hsome] at hnx;have HN:=Hi hnx;have hget:=zgU n (j+1) (2*c+zz s (a+j) 1-fst n (j+1)) (by omega) (by omega) (by omega);generalize (idx n (j+1) n.length).getD (2*c+zz s (a+j) 1-fst n (j+1)) 0=x at *;obtain ⟨q,hq⟩ : ∃ q,2*c+zz s (a+j) 1=fst n (j+1)+q:=⟨2*c+zz s (a+j) 1-fst n (j+1),by omega⟩;rw [hq] at hor;rw [show 2*c+zz s (a+j) 1-fst n (j+1)=q by omega] at hget;have hq2:q<cnt n (j+1):=(by omega);have hpos:0<(zU n 16).length:=(by have:=(List.getElem?_eq_some_iff.1 hget).1; omega);have hc2b:2*c≤65536:=(by omega);have hqi:=(List.getElem?_eq_some_iff.1 hget).1;have hF16:fst n (j+1)≤65536:=(by omega);have hL16:(zU n (j+1)).length≤4500:=(by omega);have hq16:q≤65536:=(by omega);clear hnx hsome e2 e3 e4 hlt hq hsy2 hp16 hc2 hfc;generalize 2*c=c2 at *;rw [Int.natCast_add] at hor;generalize zz s (a+j) 1=r at *;(go_wp2_with fail);refine HB.out.mono ?_;rintro e w1 ⟨rfl,hR1,hU1⟩;(go_wp2_with fail);refine (yn b w1 _ s _ false hR1).mono ?_;rintro e w2 ⟨rfl,rfl⟩;have hD:=HD.out _ (hU.then hU1);obtain ⟨g,vc,rfl,hg1,hg2⟩:=hD.row.form' hpos;have d1:=hD.blk.cell (j+1) (v := .int .i64 (cnt n (j+1):Nat)) (by rw [List.getElem?_append_left (by rw [zq,xE]; omega),zB _ _ _ (XP n (j+1) (by omega))]);have d2:=hD.blk.cell 16 (v := .slice (some ⟨g,0,none⟩) (zU n 16).length vc) (by rw [List.getElem?_append_right (by rw [zq,xE]; omega),zq,xE]; rfl);have d3:=Row.cell hD.row _ (zB _ _ _ hget);generalize (zU n (j+1)).length=L at *;generalize (zU n 16).length=L16 at *;generalize fst n (j+1)=F at *;generalize cnt n (j+1)=C at *;have d4:w1.cell? ⟨g,L+(F+q)-F,none⟩=some (.int .i64 (x:Nat)):=(by rw [show L+(F+q)-F=L+q by omega]; exact d3);clear d3;go_wp2;go_returns;rw [HN.out];exact ⟨rfl,hR1,hU.then hU1⟩
        · have hnone:qy n (j+1) (2*c+zz s (a+j) 1)=none:=by
           unfold qy; rw [if_neg (by omega)]
          rw [show 15-j=(14-j)+1 by omega,jy hend hnone] at hnx;have hge:fst n (j+1)+cnt n (j+1)≤2*c+zz s (a+j) 1:=(by omega);obtain ⟨c',hc'⟩ : ∃ c',c'=2*c+zz s (a+j) 1:=⟨_,rfl⟩;rw [← hc'] at hnx hge hor;have hc2':c'<2^(j+1):=(by omega);have hc16:c'≤65536:=(by omega);have hlt':decide ((c':Int)-(fst n (j+1):Int)<(cnt n (j+1):Int))=false:=(by simp; omega);have HN:=Hi hnx;have HC2:=Hi hc2';have hF16:fst n (j+1)+cnt n (j+1)≤65536:=(by omega);have hL16:(zU n (j+1)).length≤4500:=(by omega);have hc2b:2*c≤65536:=(by omega);clear hnx hnone e2 e3 e4 hlt hsy2 hp16 hc2 hfc hc' hc2';generalize 2*c=c2 at *;generalize zz s (a+j) 1=r at *;(go_wp2_with fail);refine HB.out.mono ?_;rintro e w1 ⟨rfl,hR1,hU1⟩;(go_wp2_with fail);refine (yn b w1 _ s _ false hR1).mono ?_;rintro e w2 ⟨rfl,rfl⟩;have hD:=HD.out _ (hU.then hU1);have d1:=hD.blk.cell (j+1) (v := .int .i64 (cnt n (j+1):Nat)) (by rw [List.getElem?_append_left (by rw [zq,xE]; omega),zB _ _ _ (XP n (j+1) (by omega))]);generalize (zU n (j+1)).length=L at *;generalize fst n (j+1)=F at *;generalize cnt n (j+1)=C at *;go_wp2;go_roundg (15-(j+1))
          case measure=>omega
          case rel =>
           refine ⟨j+1,c',by omega,rfl,by go_num,by go_num,by rw [hfn.out]; go_num,by rw [hsn.out]; go_num,HC2.out,by rw [hfn.out]; omega,by omega,?_,?_⟩
           · rw [HN.out,show 15-(j+1)=14-j by omega,Nat.add_assoc a j 1]
           · rw [← Nat.add_assoc]; exact ⟨hR1,hU.then hU1⟩
      · have e2:xh s (a+j) false 1=true:=(by simp [xh]; omega);have e3:rdTo s (a+j) false 1=a+j:=(by unfold rdTo; rw [e2]; rfl);have e4:xg s (a+j) false 1=0:=(by unfold xg; rw [e2]; rfl);rw [e2,e3,e4] at HB;rw [show 15-j=(14-j)+1 by omega,kJ hend] at hnx;rw [hnx];clear e2 e3 e4 hnx;have hcb:2*c≤65536:=(by omega);generalize 2*c=c2 at *;generalize fst n (j+1)=F at *;generalize (zU n (j+1)).length=L at *;(go_wp2_with fail);refine HB.out.mono ?_;rintro e w1 ⟨rfl,hR1,hU1⟩;(go_wp2_with fail);refine (yn b w1 _ s _ true hR1).mono ?_;rintro e w2 ⟨rfl,rfl⟩;go_wp2;go_returns;exact ⟨rfl,hR1,hU.then hU1⟩
    · have hj15:j=15:=(by omega);have hcz : ¬ (j:Int)+1≤15:=(by omega);subst hj15;have HN:=Hi (show xU n s 15 1 a 0=(none,a+15,false) from hnx);clear hnx;generalize fst n (15+1)=F at *;generalize (zU n (15+1)).length=L at *;generalize 2*c=c2 at *;go_wp2;go_returns;rw [HN.out];exact ⟨rfl,hRr,hU⟩
end Go.Proofs.YtfkenhihcmmgkaaGreatDoor
