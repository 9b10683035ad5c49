/- The walk of swingleref04.Kind. -/
import Derived.Test.YtfkenhihcmmgkaaGreatDoorQAB
set_option linter.unusedVariables false
set_option linter.unusedSimpArgs false
set_option linter.unusedSectionVars false
set_option maxRecDepth 100000
set_option maxHeartbeats 12800000
namespace Go.Proofs.YtfkenhihcmmgkaaGreatDoor
open Go.RowKit
theorem ZE (n:List Nat):(yF n=0∧jq n=0)∨(0<yF n∧yF n<32768∧jq n=2)∨(yF n=32768∧jq n=1)∨(32768<yF n∧jq n=3):=by
 unfold jq;by_cases h1:yF n=0
 · simp [h1]
 · by_cases h2:yF n<32768
   · simp [h1,h2]; omega
   · by_cases h3:yF n=32768
     · simp [h3]
     · simp [h1,h2,h3]; omega
theorem kt (a:Option Addr) (len cap:Nat) (l:List Int) (w:World) (hlen:len≤9223372036854775807) (hI:IntsIn w a len l) :
 Calls Tryz.prog 188 #[.slice a len cap] w fun e w'=>e = .returned (.int .i64 (zm l:Nat))∧w=w':=by
 have hll:=hI.len;have HI:=Hi hI;clear hI;subst hll;by_cases hlong:300<l.length
 · have hnz:((l.length:Nat):Int)>300:=(by omega);have hk:=Hi (show zm l=3 by unfold zm; rw [if_neg (by rw [Zr hlong]; decide)]);clear hlong;go_enter Tryz.func188,Tryz.ntmps188;go_wp2;go_returns;exact ⟨by rw [hk.out]; rfl,rfl⟩
 · have hnz : ¬ ((l.length:Nat):Int)>300:=(by omega);go_enter Tryz.func188,Tryz.ntmps188;go_wp2;go_loopg [3,13] l.length (fun g s3 s13 wr => ∃ i,i≤l.length∧g=l.length-i∧s13 = .int .i64 (i:Nat)∧s3 = .int .i64 (yF (zj (l.take i)):Nat)∧yM (l.take i)=true∧w=wr)
   case atStart=>exact ⟨0,by omega,rfl,rfl,rfl,kw (by simp) (by simp),rfl⟩
   case round =>
    obtain ⟨i,hin,rfl,rfl,rfl,hok,rfl⟩:=hrel;have hle:yF (zj (l.take i))≤300*32768:=zia _ (by rw [yj,List.length_take]; omega);by_cases hc:i<l.length
    · have hcz:(i:Int)<(l.length:Int):=(by omega);obtain ⟨b,off,rfl,c0,r1,r2⟩:=HI.out.cell i hc;by_cases hb:0≤l[i]∧l[i]≤15
      · obtain ⟨hb0,hb15⟩:=hb;have hok2:=Hi (Zx hc hok (by omega) hb0 hb15);obtain ⟨k,hk⟩ : ∃ k:Nat,l[i]=(k:Int):=⟨l[i].toNat,by omega⟩;have hn2:=Hi (show yF (zj (l.take (i+1)))=yF (zj (l.take i))+wt k by rw [take_snoc' l i hc,← Kk]; simp [zj,hk]);rw [hk] at c0 hb0 hb15;clear hk r1 r2 hok;generalize yF (zj (l.take i))=s at *;go_wp2;go_loopg [6,7] k (fun g s6 s7 wx => ∃ j,j≤k∧g=k-j∧s7 = .int .i64 (j:Nat)∧s6 = .int .i64 ((2^(15-j):Nat):Int)∧w=wx)
        case atStart=>exact ⟨0,by omega,rfl,rfl,rfl,rfl⟩
        case round =>
         obtain ⟨j,hj,rfl,rfl,rfl,rfl⟩:=hrel;have hp:2^(15-j)≤2^15:=Nat.pow_le_pow_right (by omega) (by omega);by_cases hjk:j<k
         · have hjz:(j:Int)<(k:Int):=(by omega);have hpp:=Hi (show 2^(15-j)/2=2^(15-(j+1)) by rw [show 15-j=(15-(j+1))+1 by omega,Nat.pow_succ,Nat.mul_div_cancel _ (by omega)]);generalize 2^(15-j)=p at *;go_wp2;go_roundg (k-(j+1))
           case measure=>omega
           case rel=>exact ⟨j+1,by omega,rfl,by go_num,by rw [← hpp.out]; simp,rfl⟩
         · have hjz : ¬ (j:Int)<(k:Int):=(by omega);have hjk':j=k:=(by omega);by_cases hk0:k=0
           · have hkz : ¬ (0:Int)<(k:Int):=(by omega);have hw0:=Hi (show wt k=0 by unfold wt; rw [if_pos hk0]);clear hk0 hjk';generalize 2^(15-j)=p at *;go_wp2;go_roundg (l.length-(i+1))
             case measure=>omega
             case rel=>exact ⟨i+1,by omega,rfl,by go_num,by rw [hn2.out,hw0.out]; rfl,hok2.out,rfl⟩
           · have hkz:(0:Int)<(k:Int):=(by omega);have hw0:=Hi (show wt k=2^(15-j) by unfold wt; rw [if_neg hk0,hjk']);clear hk0 hjk';generalize 2^(15-j)=p at *;go_wp2;go_roundg (l.length-(i+1))
             case measure=>omega
             case rel=>exact ⟨i+1,by omega,rfl,by go_num,by rw [hn2.out,hw0.out]; simp,hok2.out,rfl⟩
      · have hk:=Hi (show zm l=3 by unfold zm; rw [if_neg (by rw [Yy hc hb]; decide)]);generalize yF (zj (l.take i))=s at *;by_cases hb0:l[i]<0
        · generalize l[i]=x at *;clear hb;go_wp2;go_returns;exact ⟨by rw [hk.out]; rfl,rfl⟩
        · have hb15:15<l[i]:=(by omega);generalize l[i]=x at *;clear hb;go_wp2;go_returns;exact ⟨by rw [hk.out]; rfl,rfl⟩
    · have hcz : ¬ (i:Int)<(l.length:Int):=(by omega);have hi:i=l.length:=(by omega);rw [hi,List.take_length] at hok hle;have e:yF (zj (l.take i))=yF (zj l):=(by rw [hi,List.take_length]);rw [e];have hkind:=Hi (show zm l=jq (zj l) by unfold zm; rw [if_pos hok]);have hkc:=ZE (zj l);clear hi e hle;generalize yF (zj l)=s at *;rcases hkc with ⟨h0,hkn⟩ | ⟨h0,h1,hkn⟩ | ⟨h0,hkn⟩ | ⟨h0,hkn⟩
      · have HK:=Hi hkn;have hs:(s:Int)=0:=(by omega);clear hkn;go_wp2;go_returns;exact ⟨by rw [hkind.out,HK.out]; rfl,rfl⟩
      · have HK:=Hi hkn;have hs1:((s:Int)==0)=false:=(by simp; omega);have hs3:((s:Int)==32768)=false:=(by simp; omega);have hs2:decide ((s:Int)<32768)=true:=(by simp; omega);clear hkn h0 h1;go_wp2;go_returns;exact ⟨by rw [hkind.out,HK.out]; rfl,rfl⟩
      · have HK:=Hi hkn;have hs:(s:Int)=32768:=(by omega);clear hkn;go_wp2;go_returns;exact ⟨by rw [hkind.out,HK.out]; rfl,rfl⟩
      · have HK:=Hi hkn;have hs1:((s:Int)==0)=false:=(by simp; omega);have hs3:((s:Int)==32768)=false:=(by simp; omega);have hs2:decide ((s:Int)<32768)=false:=(by simp; omega);clear hkn h0;go_wp2;go_returns;exact ⟨by rw [hkind.out,HK.out]; rfl,rfl⟩
def jr (l:List Int):Nat:=l.countP fun k=>decide (0<k)
def JJ (l:List Int):Nat:=l.countP fun k=>decide (k=1)
def yl (l:List Int):Bool:=decide (zm l=1)||(decide (jr l=1)&&decide (JJ l=1))
theorem XC {l:List Int} {i:Nat} (h:i<l.length):jr (l.take (i+1))=jr (l.take i)+if 0<l[i] then 1 else 0:=by
 unfold jr; rw [take_snoc' l i h,List.countP_append]; simp [List.countP_cons]
theorem zeu {l:List Int} {i:Nat} (h:i<l.length):JJ (l.take (i+1))=JJ (l.take i)+if l[i]=1 then 1 else 0:=by
 unfold JJ; rw [take_snoc' l i h,List.countP_append]; simp [List.countP_cons]
theorem XY (l:List Int):jr l≤l.length:=List.countP_le_length
theorem zig (l:List Int):JJ l≤l.length:=List.countP_le_length
def jX (l:List Int):Int:=(l.filter fun k=>decide (0<k)).getLastD 0
theorem Wh {l:List Int} {i:Nat} (h:i<l.length):jX (l.take (i+1))=if 0<l[i] then l[i] else jX (l.take i):=by
 unfold jX;rw [take_snoc' l i h,List.filter_append];by_cases hp:0<l[i]
 · rw [if_pos hp,List.filter_cons_of_pos (by simpa using hp),List.filter_nil,List.getLastD_eq_getLast?];simp
 · rw [if_neg hp,List.filter_cons_of_neg (by simpa using hp),List.filter_nil,List.append_nil]
theorem zdl (l:List Int):yl l=(decide (zm l=1)||(decide (jr l=1)&&decide (jX l=1))):=by
 unfold yl;by_cases hu:jr l=1
 · have hf:(l.filter fun k=>decide (0<k)).length=1:=(by rw [← List.countP_eq_length_filter]; exact hu);obtain ⟨x,hx⟩:=List.length_eq_one_iff.1 hf;have hone:JJ l=if x=1 then 1 else 0:=by
    have e:JJ l=(l.filter fun k=>decide (0<k)).countP fun k=>decide (k=1):=by
     unfold JJ;rw [List.countP_filter]
     congr 1
     funext k;by_cases h:k=1
     · simp [h]
     · simp [h]
    rw [e,hx];by_cases h:x=1<;>simp [h]
   have hl:jX l=x:=(by unfold jX; rw [hx]; rfl);rw [hl,hone];by_cases h:x=1<;>simp [h]
 · simp [hu]
theorem Qf (x:Option Addr) (cap:Nat) (l:List Int) (w:World) (hlen:l.length≤100000) (hI:IntsIn w x l.length l) :
 Calls Tryz.prog 191 #[.slice x l.length cap] w fun e w'=>e = .returned (.bool (yl l))∧w=w':=by
 have HK:=Hi (kt x l.length cap l w (by omega) hI);have HI:=Hi hI;clear hI;go_enter Tryz.func191,Tryz.ntmps191;go_wp2;go_loopg [3,4,9] l.length (fun g s3 s4 s9 wr => ∃ i,i≤l.length∧g=l.length-i∧s9 = .int .i64 (i:Nat)∧s3 = .int .i64 (jr (l.take i):Nat)∧s4 = .int .i64 (jX (l.take i))∧w=wr)
 case atStart=>exact ⟨0,by omega,rfl,rfl,rfl,rfl,rfl⟩
 case round =>
  obtain ⟨i,hi,rfl,rfl,rfl,rfl,rfl⟩:=hrel;by_cases hc:i<l.length
  · have hcz:(i:Int)<(l.length:Int):=(by omega);obtain ⟨b,off,rfl,c,hb1,hb2⟩:=HI.out.cell i hc;have hu:=XC hc;have hl:=Wh hc;have hul:=XY (l.take i);rw [List.length_take] at hul;have HU:=Hi hu;have HL:=Hi hl;clear hu hl;generalize l[i]=y at *;by_cases hy:0<y
    · have t1:decide (0<y)=true:=decide_eq_true hy;go_wp2;go_roundg (l.length-(i+1))
      case measure=>omega
      case rel =>
       refine ⟨i+1,by omega,rfl,by first | rfl | go_num,?_,?_,rfl⟩
       · rw [HU.out,if_pos hy]; first | rfl | go_num
       · rw [HL.out,if_pos hy]
    · have t1:decide (0<y)=false:=decide_eq_false hy;go_wp2;go_roundg (l.length-(i+1))
      case measure=>omega
      case rel =>
       refine ⟨i+1,by omega,rfl,by first | rfl | go_num,?_,?_,rfl⟩
       · rw [HU.out,if_neg (by omega)]; first | rfl | go_num
       · rw [HL.out,if_neg (by omega)]
  · have hcz : ¬ (i:Int)<(l.length:Int):=(by omega);have hil:i=l.length:=(by omega);subst hil;rw [List.take_length];have hok:=Hi (zdl l);have hul:=XY l;generalize jr l=u at *;generalize jX l=y at *;generalize zm l=kk at *;by_cases h1:kk=1
    · have t1:((kk:Int)==1)=true:=(by rw [h1]; rfl);(go_wp2_with fail);refine HK.out.mono ?_;rintro e w2 ⟨rfl,rfl⟩;go_wp2;go_returns;exact ⟨by rw [hok.out]; simp [h1],rfl⟩
    · have t1:((kk:Int)==1)=false:=(by simp; omega);by_cases h2:u=1
      · have t2:((u:Int)==1)=true:=(by rw [h2]; rfl);by_cases h3:y=1
        · have t3:(y==1)=true:=(by rw [h3]; rfl);(go_wp2_with fail);refine HK.out.mono ?_;rintro e w2 ⟨rfl,rfl⟩;go_wp2;go_returns;exact ⟨by rw [hok.out]; simp [h2,h3],rfl⟩
        · have t3:(y==1)=false:=(by simp [h3]);(go_wp2_with fail);refine HK.out.mono ?_;rintro e w2 ⟨rfl,rfl⟩;go_wp2;go_returns;exact ⟨by rw [hok.out]; simp [h1,h3],rfl⟩
      · have t2:((u:Int)==1)=false:=(by simp; omega);(go_wp2_with fail);refine HK.out.mono ?_;rintro e w2 ⟨rfl,rfl⟩;go_wp2;go_returns;exact ⟨by rw [hok.out]; simp [h1,h2],rfl⟩
theorem Wl:(Tryz.prog.info? 5).map (fun i=>(i.zero,i.size,i.bytes))=some (some (.int .u8 0),1,1):=by kernel_rfl
structure WrAt (w:World) (b:Nat) (v:Value) (L:List Bool) (m:Nat):Prop where
 blk:Blk w b [v,.int .u64 (rest L m:Nat),.int .i64 (L.length-8*m:Nat)] 275
 row:Row w 5 1 v m (u8s (vG L m))
 le:8*m≤L.length
 far:v.ownBlock≠some b
def xJ (b:Nat) (v:Value):List Nat:=b::v.ownBlock.toList
theorem WrAt.upd {w w':World} {b:Nat} {v:Value} {L:List Bool} {m:Nat} {fp:List Nat} (h:WrAt w b v L m) (hu:Upd fp w w') (hb:b∉fp) (hv : ∀ k,v.ownBlock=some k→k∉fp):WrAt w' b v L m :=
 ⟨h.blk.upd hu hb,h.row.upd hu hv,h.le,h.far⟩
def zga (w:World) (b:Nat) (v:Value) (L:List Bool) (e:Ending) (w':World):Prop :=
 e = .returned (.tuple #[]) ∧ ∃ v',WrAt w' b v' L (L.length/8)∧Upd (xJ b v) w w'∧Later w v v'
def zdX (w:World) (b:Nat) (v:Value) (L:List Bool) (g:Nat) (wr:World):Prop :=
 ∃ m v',WrAt wr b v' L m∧g=L.length-8*m∧Upd (xJ b v) w wr∧Later w v v'
theorem zcN (p X K n:Nat) (hp:p<2^n) (hX:X<4294967296) (hK:K≤32) (hn:n≤7) :
 bits BinOp.or IntKind.u64 (p:Int) (IntKind.u64.wrap (bits BinOp.and IntKind.u64 (IntKind.u64.wrap (X:Int)) (IntKind.u64.wrap (IntKind.u64.wrap (2^K)-1))*2^n))=((p+2^n*(X%2^K):Nat):Int):=by
 have hn2:2^n≤2^7:=Nat.pow_le_pow_right (by omega) hn;have hK2:2^K≤2^32:=Nat.pow_le_pow_right (by omega) hK;have hK1:1≤2^K:=Nat.one_le_two_pow;have h1:IntKind.u64.wrap (X:Int)=(X:Int):=IntWalk.u64_in _ (by omega);have e2:(2:Int)^K=((2^K:Nat):Int):=by simp
 have e3:(2:Int)^n=((2^n:Nat):Int):=by simp
 rw [h1,e2,e3];have h2:IntKind.u64.wrap ((2^K:Nat):Int)=((2^K:Nat):Int):=IntWalk.u64_in _ (by omega);have h3:IntKind.u64.wrap (((2^K:Nat):Int)-1)=((2^K-1:Nat):Int):=by rw [IntWalk.u64_in _ (by omega)]; omega
 have hs:X%2^K<2^K:=Nat.mod_lt _ (by omega);have hm:(X &&& (2^K-1))=X%2^K:=Nat.and_two_pow_sub_one_eq_mod X K;have hb:X%2^K*2^n≤2^32*2^7:=Nat.mul_le_mul (by omega) hn2;rw [h2,h3,u64_and_nat _ _ (by omega) (by omega),hm,← Int.natCast_mul,IntWalk.u64_in _ (by omega),u64_or_nat _ _ (by omega) (by omega),← hm,zdA p X K n hp,hm]
theorem zcR {w0 w wa w1:World} {b g cap m N:Nat} {v v' x:Value} {L':List Bool} (hW':WrAt w b v' L' m) (hU:Upd (xJ b v) w0 w) (hLt:Later w0 v v') (hc:8*(m+1)≤L'.length)
 (hwa:Upd [] w wa) (hgrow:wa.grownBy w1 v'.ownBlock) (hat:v'.ownBlock=some g∨g=N) (hN:w.heap.size≤N)
 (hown1:w1.ownsRow 0 5 1 (.slice (some ⟨g,0,none⟩) (m+1) cap) (m+1) (u8s (vG L' m)++[x])) (hx:x = .int .u8 (JB L' m:Nat)) :
 zdX w0 b v L' (L'.length-8*(m+1)) (((w1.setCell ⟨b,0,none⟩ (.slice (some ⟨g,0,none⟩) (m+1) cap)).setCell ⟨b,1,none⟩ (.int .u64 (((rest L' m:Nat):Int)/256))).setCell ⟨b,2,none⟩ (.int .i64 (((L'.length-8*m:Nat):Int)-8))):=by
 have hgb:(Value.slice (some ⟨g,0,none⟩) (m+1) cap).ownBlock≠some b:=by
  have hb:=hW'.blk.lt;have hf:=hW'.far;rcases hat with h | h
  · rw [h] at hf; exact hf
  · simp only [Value.ownBlock,ne_eq,Option.some.injEq]; omega
 have hBw:Blk w1 b _ _:=(hW'.blk.upd hwa (by simp)).grown hgrow hW'.far;refine ⟨m+1,.slice (some ⟨g,0,none⟩) (m+1) cap,⟨?_,?_,hc,hgb⟩,rfl,?_,?_⟩
 · have h:=((hBw.set 0 (.slice (some ⟨g,0,none⟩) (m+1) cap)).set 1 (.int .u64 (((rest L' m:Nat):Int)/256))).set 2 (.int .i64 (((L'.length-8*m:Nat):Int)-8));have e1:(((rest L' m:Nat):Int)/256)=((rest L' (m+1):Nat):Int):=(by rw [zfc _ _ hc]; simp);have e2:(((L'.length-8*m:Nat):Int)-8)=((L'.length-8*(m+1):Nat):Int):=(by omega);rw [← e1,← e2];exact h
 · rw [VE,zhE,← hx];exact (((Row.of_owns hown1).setFar _ hgb).setFar _ hgb).setFar _ hgb
 · have hU1:Upd (xJ b v) w0 w1:=(hU.then (hwa.mono (by simp))).grown hgrow (fun k hk=>by
    rcases hLt with h | ⟨j,h,hj⟩
    · exact .inl (by simp [xJ,← h,hk])
    · rw [h] at hk; cases hk; exact .inr hj)
   exact ((hU1.setCell (.inl (by simp [xJ])) _).setCell (.inl (by simp [xJ])) _).setCell (.inl (by simp [xJ])) _
 · rcases hat with h | h
   · rcases hLt with h' | ⟨j,h',hj⟩
     · exact .inl (by rw [← h',h]; rfl)
     · exact .inr ⟨j,by rw [← h',h]; rfl,hj⟩
   · exact .inr ⟨g,rfl,by have:=hU.size; omega⟩
theorem Yd (b X:Nat) (x k:Int) (K:Nat) (w:World) (v:Value) (L:List Bool) (hx:x=(X:Nat)) (hX:X<4294967296) (hW:WrAt w b v L (L.length/8)) (hL:L.length≤1099511627776)
 (hK32:K≤32) (hK:Hid ((K:Int)=max 0 (min k 32))) :
 Calls Tryz.prog 255 #[.pointer (some ⟨b,0,none⟩),.int .u32 x,.int .i64 k] w (zga w b v (L++low K X)):=by
 subst hx;obtain ⟨i0,hi,hz0,hz1,hz2⟩:=info_parts Wl;have hA:=hW.blk.all;have fA:=hW.blk.frz;have hle:=hW.le;have hn7:L.length-8*(L.length/8)≤7:=by omega
 have hnn:(0:Int)≤((L.length-8*(L.length/8):Nat):Int):=by omega
 have hK0:(0:Int)≤(K:Int):=by omega
 have hst:=Hi (zcN (rest L (L.length/8)) X K (L.length-8*(L.length/8)) (zdx L _) hX hK32 hn7);have hre:rest L (L.length/8)+2^(L.length-8*(L.length/8))*(X%2^K)=rest (L++low K X) (L.length/8):=by rw [zab _ _ _ hle,zdU]
 rw [hre] at hst;clear hre;go_enter Tryz.func255,Tryz.ntmps255;go_upto_region 1 with fail
 go_cut [2] (fun s2 wx=>s2 = .int .i64 (K:Nat)∧wx=w)
 case first =>
  go_wp2;all_goals go_meet
  all_goals (refine ⟨?_,rfl⟩; first | (rw [hK.out]; done) | (rw [hK.out]; congr 1; omega))
 case rest =>
  obtain ⟨rfl,rfl⟩:=hcut;go_upto_region 2 with fail
  go_still_tail 18,(by kernel_rfl)
  rw [hst.out];go_wp2;have hLK:Hid ((L++low K X).length=L.length+K):=Hi (by rw [List.length_append,zO]);have hlo:Hid (vG (L++low K X) (L.length/8)=vG L (L.length/8)):=Hi (zaH _ _ _ hle);have hub':(L++low K X).length≤2000000000000:=by rw [List.length_append,zO]; omega
  generalize L++low K X=L' at *;go_loopg [] (L'.length-8*(L.length/8)) (fun g wr=>zdX wc b v L' g wr)
  case atStart =>
   refine ⟨L.length/8,v,⟨?_,?_,by rw [hLK.out]; omega,hW.far⟩,rfl,?_,.refl _ _⟩
   · have h:=(hW.blk.set 1 (.int .u64 (rest L' (L.length/8):Nat))).set 2 (.int .i64 (((L.length-8*(L.length/8):Nat):Int)+(K:Int)));have e:(((L.length-8*(L.length/8):Nat):Int)+(K:Int))=((L'.length-8*(L.length/8):Nat):Int):=by
      rw [hLK.out]; omega
     rw [← e];exact h
   · rw [hlo.out];exact (((hW.row).setFar _ hW.far).setFar _ hW.far).drew
   · exact (((Upd.refl _ _).setCell (.inl (by simp [xJ])) _).setCell (.inl (by simp [xJ])) _).drew
  case round =>
   obtain ⟨m,v',hW',rfl,hU,hLt⟩:=hrel;clear hA fA hst hnn hn7 hlo hLK;have hA:=hW'.blk.all;have fA:=hW'.blk.frz;by_cases hc:8≤L'.length-8*m
   · have hcz:(8:Int)≤((L'.length-8*m:Nat):Int):=(by omega);have hub:((L'.length-8*m:Nat):Int)≤2000000000000:=(by omega);have hbw:=hW'.blk.lt;have hfar:=hW'.far;have hrow:=hW'.row;have hmm:m≤2000000000000:=(by omega);go_wp2_with fail
     go_region_law ((refine step_append_lies _ (by rfl) _ _ _ (by rfl) 0 5 i0 _ 1 1 Tryz.underlying97 hi hz0 hz1 hz2 rfl (by omega) v' m _ (by rfl) (Row.alloc (Row.drew hrow) _) ⟨wr.heap.size,0,none⟩ 1 1 [_] (by rfl) (by rfl) (World.news_of_block (cs := #[_]) (t:=5) (fr:=(0,0)) (heap_alloc_new _ _)) (by simp [Value.oneCell']) (by omega) (by unfold maxLen; omega) (by omega) (by simp) (wr.heap.size+1) (by simp) ?_; intro g cap w1 hown1 hgrow hat hlt; have hBw:=(hW'.blk.drew.alloc _).grown hgrow hfar; have kA:=hBw.all; have e0:=hBw.frz 0; have e1:=hBw.frz 1; have e2:=hBw.frz 2))
     (all_goals go_wp2);(all_goals go_roundg (L'.length-8*(m+1)));all_goals first | omega | (refine zcR hW' hU hLt (by omega) (by first | exact ((Upd.refl _ _).drew.alloc _) | exact ((Upd.refl _ _).alloc _).drew) hgrow hat (by omega) hown1 ?_; rw [zcX _ _ (by omega),IntKind.wrap_u8]; simp)
   · have hcz:((L'.length-8*m:Nat):Int)<8:=(by omega);go_wp2
     go_end0
     have hm:m=L'.length/8:=(by have:=hW'.le; omega);exact ⟨rfl,v',hm▸hW',hU,hLt⟩
theorem zeU (b:Nat) (w:World) (v:Value) (L:List Bool) (hW:WrAt w b v L (L.length/8)) (hL:L.length≤1099511627776) :
 Calls Tryz.prog 224 #[.pointer (some ⟨b,0,none⟩)] w fun e w'=>e = .returned (.string (zg (pack L)))∧Upd [] w w':=by
 have h0:=hW.blk.cell 0 rfl;have h1:=hW.blk.cell 1 rfl;have h2:=hW.blk.cell 2 rfl;have hc:=fun W' h=>ju (P:=Tryz.prog) W' 97 9 5 Tryz.underlying97 Tryz.underlying5 Tryz.underlying9 (v:=v) (n:=L.length/8) (l:=vG L (L.length/8)) h;have hlo:=ZL L (L.length/8);by_cases hz:L.length%8=0
 · have hn:L.length-8*(L.length/8)=0:=(by omega);have hp:pack L=vG L (L.length/8):=by unfold pack; congr 1; omega
   have HP:=Hi hp;have h2':w.cell? ⟨b,2,none⟩=some (.int .i64 0):=(by rw [h2,hn]; rfl);clear hp hn hz h2;have hcw:=hc w hW.row;clear hc;go_enter Tryz.func224,Tryz.ntmps224;go_wp2;go_returns;exact ⟨by rw [HP.out]; rfl,.refl _ _⟩
 · have hn1:(1:Int)≤((L.length-8*(L.length/8):Nat):Int):=(by omega);have hp:pack L=vG L (L.length/8)++[rest L (L.length/8)]:=by
    unfold pack;rw [show (L.length+7)/8=L.length/8+1 by omega,VE,zc9 _ _ (by omega)]
   have hr:rest L (L.length/8)<256:=Nat.lt_of_lt_of_le (zdx L _) (Nat.le_trans (Nat.pow_le_pow_right (by omega) (show L.length-8*(L.length/8)≤8 by omega)) (by decide));have HP:=Hi hp;clear hp hz;go_enter Tryz.func224,Tryz.ntmps224;go_wp2;have hcw:=hc w.drew hW.row.drew;have k0 : ∀ o,(w.alloc o).cell? ⟨b,0,none⟩=some v:=fun o=>(hW.blk.alloc o).cell 0 rfl;have k1 : ∀ o,(w.alloc o).cell? ⟨b,1,none⟩=some (.int .u64 (rest L (L.length/8):Nat)):=fun o=>(hW.blk.alloc o).cell 1 rfl;have hc1:=ju (P:=Tryz.prog) (w.alloc (.cells #[.int .u8 (rest L (L.length/8):Nat)] 5)).drew 97 9 5 Tryz.underlying97 Tryz.underlying5 Tryz.underlying9 (l:=[rest L (L.length/8)]) (Row.new w [.int .u8 (rest L (L.length/8):Nat)] 5 1 1 (by decide) rfl).drew;have hcw2:=fun o=>hc (w.alloc o).drew (hW.row.alloc o).drew;have hadd : ∀ W',(Op.stringOp .add (zg (vG L (L.length/8))) (zg [rest L (L.length/8)])).run Tryz.prog W' = .ok (.string (zg (vG L (L.length/8))++zg [rest L (L.length/8)])) W':=fun W' =>
    run_string_add_sum _ _ _ (by rw [zk,zk,hlo]; simp; omega)
   clear hc hW
   go_region
   all_goals go_wp2
   all_goals go_returns
   all_goals exact ⟨by rw [HP.out,← zI]; rfl,((Upd.refl _ _).alloc _).drew⟩
theorem zcB:(Tryz.prog.info? 356).map (·.size)=some 16:=by kernel_rfl
def ze2 (w:World) (l:List Int) (e:Ending) (w':World):Prop :=
 Upd [] w w'∧((yM l=true∧e = .returned (.tuple #[.agg (zl (cl (zj l))).toArray,.bool true])) ∨
  (yM l=false ∧ ∃ c,c.length=16∧e = .returned (.tuple #[.agg (zl c).toArray,.bool false])))
def zgE (w:World) (l:List Int) (i:Nat) (wr:World):Prop:=yM (l.take i)=true∧Blk wr w.heap.size (zl (cl0 (zj (l.take i)))) 356∧Upd [] w wr
theorem Jg {w:World} {fn:Func} {p u:Tmp} {b:Nat} {cs:List Value} {tmps:Array Value} (h:fn.results = #[.cell p 356,.tmp u]) (hp:tmps.getD p undef = .pointer (some ⟨b,0,none⟩)) {t:TypeId} (hB:Blk w b cs t) (hl:cs.length=16) :
 (results fn tmps).run Tryz.prog w = .ok (.tuple #[.agg cs.toArray,tmps.getD u undef]) w:=by
 have hp':tmps[p]?.getD undef = .pointer (some ⟨b,0,none⟩):=by simpa using hp
 have hr:=run_loadVar_row (P:=Tryz.prog) w b t 356 cs.toArray (0,0) _ hB Tryz.underlying356 rfl (by rw [zcB]; simp [hl]);simp [results,h,hp',asAddr,hr]
theorem JI (a:Option Addr) (len cap:Nat) (l:List Int) (w:World) (hlen:len≤9223372036854775807) (hI:IntsIn w a len l) :
 Calls Tryz.prog 310 #[.slice a len cap] w (ze2 w l):=by
 have hll:=hI.len;have HI:=Hi hI;clear hI;subst hll;by_cases hlong:300<l.length
 · have hnz:((l.length:Nat):Int)>300:=(by omega);have hok:=Zr hlong;have HOK:=Hi hok;clear hok hlong;go_enter Tryz.func310,Tryz.ntmps310;have hB:=Blk.new w (zl (List.replicate 16 0)) 356;go_wp2_with (first
    | (refine zx rfl 356 _ rfl w.heap.size rfl 356 (zl (List.replicate 16 0)) hB _ Tryz.underlying356 rfl (by kernel_rfl) ?_)
    | (refine zv rfl 356 _ _ rfl w.heap.size rfl (zl (List.replicate 16 0)) rfl 356 _ hB (by kernel_rfl) rfl (xi _) ?_; intro w2 hB2 hU2))
   exact bodyPost_ret (Jg rfl rfl hB2 rfl) rfl ⟨((Upd.refl _ _).alloc _).trans hU2 (fun k hk=>by simp at hk; right; omega),.inr ⟨HOK.out,_,rfl,rfl⟩⟩
 · have hnz : ¬ ((l.length:Nat):Int)>300:=(by omega);go_enter Tryz.func310,Tryz.ntmps310;go_wp2;go_loopg [12] l.length (fun g s12 wr => ∃ i,i≤l.length∧g=l.length-i∧s12 = .int .i64 (i:Nat)∧zgE w l i wr)
   case atStart=>exact ⟨0,by omega,rfl,rfl,kw (by simp) (by simp),Blk.new w (zl (List.replicate 16 0)) 356,(Upd.refl _ _).alloc _⟩
   case round =>
    obtain ⟨i,hin,rfl,rfl,hok,hB,hU⟩:=hrel;by_cases hc:i<l.length
    · have hcz:(i:Int)<(l.length:Int):=(by omega);obtain ⟨b,off,rfl,c0,r1,r2⟩:=(HI.out.pure hU).cell i hc;by_cases hb:0≤l[i]∧l[i]≤15
      · obtain ⟨hb0,hb15⟩:=hb;have hok2:=Hi (Zx hc hok (by omega) hb0 hb15);obtain ⟨k,hk⟩ : ∃ k:Nat,l[i]=(k:Int):=⟨l[i].toNat,by omega⟩;have hn2:=Hi (show zj (l.take (i+1))=zj (l.take i)++[k] by rw [take_snoc' l i hc]; simp [zj,hk]);rw [hk] at c0 hb0 hb15;have hcl:=Hi (zhJ (zj (l.take i)) k (by omega));have hcc:(zj (l.take i)).count k≤300:=Nat.le_trans List.count_le_length (by rw [yj,List.length_take]; omega);have hk16:k<16:=(by omega);have d0:=hB.cell k (zB _ _ _ (Qq (zj (l.take i)) k hk16));have f0:=hB.frz k;clear hk r1 r2;generalize (zj (l.take i)).count k=C at *;go_wp2;go_roundg (l.length-(i+1))
        case measure=>omega
        case rel =>
         refine ⟨i+1,by omega,rfl,by go_num,hok2.out,?_,hU.setCell (.inr (Nat.le_refl _)) _⟩;rw [hn2.out,hcl.out,xL];exact hB.set k _
      · have hokF:=Hi (Yy hc hb);have hlen0:(zl (cl0 (zj (l.take i)))).length=16:=(by rw [zq,qn]);have hlc:=qn (zj (l.take i));generalize cl0 (zj (l.take i))=c at *;by_cases hb0:l[i]<0
        · generalize l[i]=x at *;go_wp2_with (first
           | (refine zx rfl 356 _ rfl w.heap.size rfl 356 _ hB _ Tryz.underlying356 rfl (by rw [hlen0]; kernel_rfl) ?_)
           | (refine zv rfl 356 _ _ rfl w.heap.size rfl _ rfl 356 _ hB (by rw [hlen0]; kernel_rfl) rfl (xi _) ?_; intro w2 hB2 hU2))
          exact bodyPost_ret (Jg rfl rfl hB2 hlen0) rfl ⟨hU.trans hU2 (fun k hk=>by simp at hk; right; omega),.inr ⟨hokF.out,_,hlc,rfl⟩⟩
        · have hb15:15<l[i]:=(by omega);generalize l[i]=x at *;clear hb;go_wp2_with (first
           | (refine zx rfl 356 _ rfl w.heap.size rfl 356 _ hB _ Tryz.underlying356 rfl (by rw [hlen0]; kernel_rfl) ?_)
           | (refine zv rfl 356 _ _ rfl w.heap.size rfl _ rfl 356 _ hB (by rw [hlen0]; kernel_rfl) rfl (xi _) ?_; intro w2 hB2 hU2))
          exact bodyPost_ret (Jg rfl rfl hB2 hlen0) rfl ⟨hU.trans hU2 (fun k hk=>by simp at hk; right; omega),.inr ⟨hokF.out,_,hlc,rfl⟩⟩
    · have hcz : ¬ (i:Int)<(l.length:Int):=(by omega);have hi:i=l.length:=(by omega);rw [hi,List.take_length] at hok hB;have hcl:=Hi (zjL (zj l));have d0:=hB.cell 0 (zB _ _ _ (Qq (zj l) 0 (by omega)));have f0:=hB.frz 0;have hB1:=hB.set 0 (.int .i64 0);have hB1':Blk (wr.setCell ⟨w.heap.size,0,none⟩ (.int .i64 0)) w.heap.size (zl (cl (zj l))) 356:=by
       rw [← hcl.out,xL]; exact hB1
      clear hB1 hi;have hlen0:(zl (cl (zj l))).length=16:=(by rw [zq,xE]);generalize hgc:cl (zj l)=c at *;have HGC:=Hi hgc;clear hgc;go_wp2_with (first
       | (refine zx rfl 356 _ rfl w.heap.size rfl 356 _ hB1' _ Tryz.underlying356 rfl (by rw [hlen0]; kernel_rfl) ?_)
       | (refine zv rfl 356 _ _ rfl w.heap.size rfl _ rfl 356 _ hB1' (by rw [hlen0]; kernel_rfl) rfl (xi _) ?_; intro w2 hB2 hU2))
      exact bodyPost_ret (Jg rfl rfl hB2 hlen0) rfl ⟨(hU.setCell (.inr (Nat.le_refl _)) _).trans hU2 (fun k hk=>by simp at hk; right; omega),.inl ⟨hok,by rw [HGC.out]; rfl⟩⟩
theorem zeY (p c k:Nat) (hp:p≤200000000) (hc:c≤300):wrap64 ((p:Int)+wrap64 ((c:Int)*2^(15-k)))=((p+c*2^(15-k):Nat):Int):=by
 have h1:2^(15-k)≤2^15:=Nat.pow_le_pow_right (by omega) (by omega);have h2:c*2^(15-k)≤300*2^15:=Nat.mul_le_mul hc h1;have e:(2:Int)^(15-k)=((2^(15-k):Nat):Int):=by simp
 have h3:wrap64 ((c*2^(15-k):Nat):Int)=((c*2^(15-k):Nat):Int):=IntWalk.wrap64_in _ (by omega);rw [e,← Int.natCast_mul,h3,← Int.natCast_add];exact IntWalk.wrap64_in _ (by omega)
theorem kv (a:Option Addr) (len cap:Nat) (l:List Int) (w:World) (hlen:len≤9223372036854775807) (hI:IntsIn w a len l) :
 Calls Tryz.prog 276 #[.slice a len cap] w fun e w'=>e = .returned (.int .i64 (zm l:Nat))∧Upd [] w w':=by
 have HC:=Hi (JI a len cap l w hlen hI);clear hI;go_enter Tryz.func276,Tryz.ntmps276;go_wp2_with fail
 refine HC.out.mono ?_;rintro e w1 ⟨hU1,⟨hok,rfl⟩ | ⟨hok,c,hlc,rfl⟩⟩
 · have HOK:=Hi hok;clear hok;have hlen0:(zl (cl (zj l))).length=16:=(by rw [zq,xE]);have hidx : ∀ i:Nat,i<16 → ∀ W,(Instr.index 356 (.agg (zl (cl (zj l))).toArray) (.int .i64 (i:Int))).run Tryz.prog W = .ok (.int .i64 (cnt (zj l) i:Nat)) W:=fun i hi W=>by
    rw [Qh (P:=Tryz.prog) 356 3 16 Tryz.underlying356 .i64 Tryz.underlying3 (by kernel_rfl) (zl (cl (zj l))) hlen0 .i64 i hi];rw [List.getD,zB _ _ _ (XP (zj l) i hi)]; rfl
   have HX:=Hi hidx;clear hidx;have hpl:=Hi (fun k hk=>zii (zj l) k hk (by rw [yj]; exact (zC HOK.out).1));have hcl:=Hi (fun k=>Nat.le_trans (zhS (zj l) k) (by rw [yj]; exact (zC HOK.out).1));have hkind:=Hi (show zm l=jq (zj l) by unfold zm; rw [if_pos HOK.out]);have hps:=Hi (Kj (zj l) (fun x hx=>by
    simp only [zj,List.mem_map] at hx;obtain ⟨y,hy,rfl⟩:=hx;have:=(zC HOK.out).2 y hy; omega))
   generalize zj l=n at *;go_wp2_with (first
    | (refine zv rfl 356 _ _ rfl w1.heap.size rfl _ rfl 356 _ (Blk.new w1 (zl (List.replicate 16 0)) 356) (by kernel_rfl) hlen0 (xi _) ?_; intro w2 hB2 hU2)
    | (refine zx rfl 356 _ rfl w1.heap.size rfl 356 _ hB2 _ Tryz.underlying356 rfl (by rw [hlen0]; kernel_rfl) ?_))
   have hU3:Upd [] w w2:=(hU1.alloc _).trans hU2 (fun k hk=>by simp at hk; right; have:=hU1.size; omega);go_loopg [5,16] 16 (fun g s5 s16 wr => ∃ k,k≤16∧g=16-k∧s16 = .int .i64 (k:Nat)∧s5 = .int .i64 (je n k:Nat)∧w2=wr)
   case atStart=>exact ⟨0,by omega,rfl,rfl,rfl,rfl⟩
   case round =>
    obtain ⟨k,hk,rfl,rfl,rfl,rfl⟩:=hrel;have hle:=hpl.out k hk;by_cases hc:k<16
    · have hcz:(k:Int)<16:=(by omega);have hx:=HX.out k hc;have hcle:=hcl.out k;have hsn:=Hi (show je n (k+1)=je n k+cnt n k*2^(15-k) by rfl);generalize je n k=p at *;generalize cnt n k=c at *;go_wp2;go_roundg (16-(k+1))
      case measure=>omega
      case rel =>
       refine ⟨k+1,by omega,rfl,by go_num,?_,rfl⟩;rw [hsn.out,zeY _ _ _ (by omega) hcle]
    · have hk16:k=16:=(by omega);have hcz : ¬ (k:Int)<16:=(by omega);rw [hk16,hps.out] at hle ⊢;have hkc:=ZE n;clear hk16;generalize yF n=s at *;rcases hkc with ⟨h0,hkn⟩ | ⟨h0,h1,hkn⟩ | ⟨h0,hkn⟩ | ⟨h0,hkn⟩
      · have HK:=Hi hkn;have hs:(s:Int)=0:=(by omega);clear hkn;go_wp2;go_returns;exact ⟨by rw [hkind.out,HK.out]; rfl,hU3⟩
      · have HK:=Hi hkn;have hs1:((s:Int)==0)=false:=(by simp; omega);have hs2:decide ((s:Int)<32768)=true:=(by simp; omega);clear hkn h0 h1 hle;go_wp2;go_returns;exact ⟨by rw [hkind.out,HK.out]; rfl,hU3⟩
      · have HK:=Hi hkn;have hs:(s:Int)=32768:=(by omega);clear hkn;go_wp2;go_returns;exact ⟨by rw [hkind.out,HK.out]; rfl,hU3⟩
      · have HK:=Hi hkn;have hs1:((s:Int)==0)=false:=(by simp; omega);have hs2:decide ((s:Int)<32768)=false:=(by simp; omega);have hs3:((s:Int)==32768)=false:=(by simp; omega);clear hkn h0 hle;go_wp2;go_returns;exact ⟨by rw [hkind.out,HK.out]; rfl,hU3⟩
 · have hlen0:(zl c).length=16:=(by rw [zq,hlc]);have hkind:=Hi (show zm l=3 by unfold zm; rw [if_neg (by rw [hok]; decide)]);clear hok;go_wp2_with (first
    | (refine zv rfl 356 _ _ rfl w1.heap.size rfl _ rfl 356 _ (Blk.new w1 (zl (List.replicate 16 0)) 356) (by kernel_rfl) hlen0 (xi _) ?_; intro w2 hB2 hU2))
   go_returns;exact ⟨by rw [hkind.out]; rfl,(hU1.alloc _).trans hU2 (fun k hk=>by simp at hk; right; have:=hU1.size; omega)⟩
theorem zdH:(Tryz.prog.info? 24).map (fun i=>(i.zero,i.size,i.bytes))=some (some (.int .u32 0),1,4):=by kernel_rfl
end Go.Proofs.YtfkenhihcmmgkaaGreatDoor
