/- The walks of package huff, further: firsts, Codes, Turned. -/
import Derived.Test.YtfkenhihcmmgkaaGreatDoorQAC
set_option linter.unusedVariables false
set_option linter.unusedSimpArgs false
set_option linter.unusedSectionVars false
set_option maxRecDepth 100000
set_option maxHeartbeats 12800000
namespace Go.Proofs.YtfkenhihcmmgkaaGreatDoor
open Go.RowKit
def qf (l:List Nat):List Value:=l.map fun x:Nat => .int .u32 (x:Int)
theorem kd (l:List Nat):(qf l).length=l.length:=by simp [qf]
theorem Qc (l:List Nat) (i x:Nat):qf (l.set i x)=(qf l).set i (.int .u32 (x:Int)):=by simp [qf,List.map_set]
theorem vY (l:List Nat) (i x:Nat) (h:l[i]? =some x):(qf l)[i]? =some (.int .u32 (x:Int)):=by simp [qf,h]
theorem zac (l:List Nat) : ∀ v∈qf l,v.oneCell'=true:=by
 intro v hv;simp only [qf,List.mem_map] at hv;obtain ⟨x,_,rfl⟩:=hv;rfl
theorem zbU:(Tryz.prog.info? 381).map (·.size)=some 16:=by kernel_rfl
theorem zcZ (n:List Nat) (w:World) (hs:je n 16≤32768) :
 Calls Tryz.prog 341 #[.agg (zl (cl n)).toArray] w fun e w'=>e = .returned (.agg (qf (fl n)).toArray)∧Upd [] w w':=by
 have hb:=fun k hk=>Ji n hs k hk;have HB:=Hi hb;clear hb;have hlen0:(zl (cl n)).length=16:=by rw [zq,xE]
 have hlen1:Hid ((qf (fl n)).length=16):=Hi (by rw [kd,Kn]);go_enter Tryz.func341,Tryz.ntmps341;go_wp2;go_loopg [3] 15 (fun g s3 wr => ∃ j,j≤15∧g=15-j∧s3 = .int .i64 ((j+1:Nat):Int)∧Blk wr w.heap.size (zl (cl n)) 356∧Blk wr (w.heap.size+1) (qf (flp n (j+1))) 381∧Upd [] w wr)
 case atStart =>
  refine ⟨0,by omega,rfl,rfl,(Blk.new w _ _).alloc _,?_,((Upd.refl _ _).alloc _).alloc _⟩;have h:=Blk.new (w.alloc (.cells (zl (cl n)).toArray 356)) (qf (flp n (0+1))) 381;rw [World.size_alloc,zjg] at h;rw [zjg];exact h
 case round =>
  obtain ⟨j,hj,rfl,rfl,hB1,hB2,hU⟩:=hrel;by_cases hc:j<15
  · have hcz:(j:Int)+1≤15:=(by omega);have d1:=hB1.cell j (zB _ _ _ (XP n j (by omega)));have d2:=hB2.cell j (vY _ _ _ (Kp n (j+1) j (by omega)));have d3:=hB2.cell (j+1) (vY _ _ _ (Kp n (j+1) (j+1) (by omega)));rw [if_pos (by omega)] at d2;rw [if_neg (by omega)] at d3;have f3:=hB2.frz (j+1);have hbd:=HB.out j (by omega);have hp15:2^j≤2^15:=Nat.pow_le_pow_right (by omega) (by omega);have hst:=Hi (zje n (j+1));have hfs:=Hi (show fst n (j+1)=2*(fst n j+cnt n j) by rfl);generalize fst n (j+1)=F1 at *;generalize fst n j=F at *;generalize cnt n j=C at *;generalize 2^j=pj at *;go_wp2;have hj0:(0:Int)≤(j:Int):=(by omega);have e1:IntKind.i64.wrap (((j:Int)+1)-1)=(j:Int):=by rw [IntWalk.i64_in _ (by omega)]; omega
    go_region
    go_wp2;go_roundg (15-(j+1))
    case measure=>omega
    case rel =>
     have hv:(((F:Int)+(C:Int))*2)=((F1:Nat):Int):=(by have:=hfs.out; omega);rw [hv];refine ⟨j+1,by omega,rfl,by go_num,(hB1.setFar _ (by simp)).drew,?_,(hU.setCell (.inr (by simp)) _).drew⟩;rw [← hst.out,Qc];exact (hB2.set (j+1) _).drew
  · have hj15:j=15:=(by omega);have hcz : ¬ (j:Int)+1≤15:=(by omega);rw [hj15,zjI] at hB2;clear hj15;go_wp2_with (first
     | (refine zx rfl 381 _ rfl (w.heap.size+1) rfl 381 _ hB2 _ Tryz.underlying381 rfl (by rw [hlen1.out]; kernel_rfl) ?_)
     | (refine zv rfl 381 _ _ rfl (w.heap.size+1) rfl _ rfl 381 _ hB2 (by rw [hlen1.out]; kernel_rfl) rfl (zac _) ?_; intro w2 hB3 hU2))
    exact bodyPost_ret (results_cell_row rfl _ _ _ _ _ _ _ rfl hB3 Tryz.underlying381 rfl (by rw [zbU]; simp [hlen1.out])) rfl ⟨rfl,hU.trans hU2 (fun k hk=>by simp at hk; right; omega)⟩
def Kd (w:World) (l:List Int) (e:Ending) (w':World):Prop :=
 Upd [] w w'∧((zm l=3∧e = .returned (.slice none 0 0)) ∨
  (zm l≠3 ∧ ∃ g,e = .returned (.slice (some ⟨g,0,none⟩) l.length l.length)∧w.heap.size≤g∧Row w' 24 1 (.slice (some ⟨g,0,none⟩) l.length l.length) l.length (qf (jo (zj l)))))
def WI (w:World) (n:List Nat) (bx g:Nat) (i:Nat) (wr:World):Prop :=
 Blk wr bx (qf (nx n i)) 381∧Row wr 24 1 (.slice (some ⟨g,0,none⟩) n.length n.length) n.length (qf (JV n i))∧Upd [] w wr
theorem zfp (a:Option Addr) (len cap:Nat) (l:List Int) (w:World) (hlen:len≤9223372036854775807) (hI:IntsIn w a len l) :
 Calls Tryz.prog 321 #[.slice a len cap] w (Kd w l):=by
 have hll:=hI.len;have HI:=Hi hI;clear hI;subst hll;have HK:=Hi (kv a l.length cap l w hlen HI.out);have HC:=Hi (fun w1 (hU:Upd [] w w1)=>JI a l.length cap l w1 hlen (HI.out.pure hU));obtain ⟨i0,hi0,hz0,hz1,hz2⟩:=info_parts zdH;by_cases hk3:zm l=3
 · have H3:=Hi hk3;rw [hk3] at HK;clear hk3;go_enter Tryz.func321,Tryz.ntmps321;go_wp2_with fail
   refine HK.out.mono ?_;rintro e w1 ⟨rfl,hU1⟩;go_wp2;go_returns;exact ⟨hU1,.inl ⟨H3.out,rfl⟩⟩
 · obtain ⟨hok,hps⟩:=qS hk3;have hkb:((zm l:Nat):Int)≠3:=(by omega);have H3:=Hi hk3;have HO:=Hi hok;generalize zm l=kk at HK hkb;clear hk3;go_enter Tryz.func321,Tryz.ntmps321;go_wp2_with fail
   refine HK.out.mono ?_;rintro e w1 ⟨rfl,hU1⟩;go_wp2_with fail
   refine (HC.out w1 hU1).mono ?_;rintro e w2 ⟨hU2,⟨_,rfl⟩ | ⟨hno,_⟩⟩
   case inr=>rw [hok] at hno; cases hno
   have hlen0:(zl (cl (zj l))).length=16:=(by rw [zq,xE]);have hlen1:(qf (fl (zj l))).length=16:=(by rw [kd,Kn]);clear hok;have hnl:=yj l;have h300:=(zC HO.out).1;go_wp2_with (first
    | (refine zv rfl 356 _ _ rfl w2.heap.size rfl _ rfl 356 _ (Blk.new w2 (zl (List.replicate 16 0)) 356) (by kernel_rfl) hlen0 (xi _) ?_; intro w3 hB3 hU3)
    | (refine zx rfl 356 _ rfl w2.heap.size rfl 356 _ hB3 _ Tryz.underlying356 rfl (by rw [hlen0]; kernel_rfl) ?_))
   refine (zcZ (zj l) _ hps).mono ?_;rintro e w4 ⟨rfl,hU4⟩;have hU34:Upd [] w w4:=(((hU1.then hU2).alloc _).trans hU3 (fun k hk=>by simp at hk; right; have:=(hU1.then hU2).size; omega)).then hU4;clear hB3 hU3 hU4 hU2 hU1;go_wp2_with (first
    | (refine zv rfl 381 _ _ rfl w4.heap.size rfl _ rfl 381 _ (Blk.new w4 (qf (List.replicate 16 0)) 381) (by kernel_rfl) hlen1 (zac _) ?_; intro w5 hB5 hU5)
    | (refine kz _ rfl _ _ 244 rfl 24 i0 _ Tryz.underlying244 hi0 hz0 hz1 rfl .i64 .i64 _ _ l.length rfl rfl rfl rfl (by rw [hz2]; omega) (by unfold maxLen; omega) ?_; intro w6 hR6 hU6 hs6))
   have hU56:Upd [] w w6:=((hU34.alloc _).trans hU5 (fun k hk=>by simp at hk; right; have:=hU34.size; omega)).then hU6;have hB6:=hB5.upd hU6 (by simp);have hg5:w4.heap.size<w5.heap.size:=hB5.lt;have hwg:w.heap.size≤w5.heap.size:=(by have:=hU34.size; omega);have hwx:w.heap.size≤w4.heap.size:=hU34.size;generalize w5.heap.size=g at *;generalize w4.heap.size=bx at *;clear hB5 hU5 hU6 hU34;have hpb:=Hi (fun k hk=>Ji (zj l) hps k hk);have hRel0:WI w (zj l) bx g 0 w6:=by
    refine ⟨by rw [zkK]; exact hB6,?_,hU56⟩;rw [zjW,hnl];have e:qf (List.replicate l.length 0)=List.replicate l.length (.int .u32 0):=(by simp [qf]);rw [e]; exact hR6
   clear hB6 hR6 hU56 hs6 hps;go_loopg [24] l.length (fun gg s24 wr => ∃ i,i≤l.length∧gg=l.length-i∧s24 = .int .i64 (i:Nat)∧WI w (zj l) bx g i wr)
   case atStart=>exact ⟨0,by omega,rfl,rfl,hRel0⟩
   case round =>
    obtain ⟨i,hin,rfl,rfl,hB,hR,hU⟩:=hrel;clear hRel0;by_cases hc:i<l.length
    · have hcz:(i:Int)<(l.length:Int):=(by omega);obtain ⟨b,off,rfl,c0,r1,r2⟩:=(HI.out.pure hU).cell i hc;have hkk:=(zC HO.out).2 _ (List.getElem_mem hc);obtain ⟨k,hk⟩ : ∃ k:Nat,l[i]=(k:Int):=⟨l[i].toNat,by omega⟩;have hin':i<(zj l).length:=(by omega);have hnk:(zj l)[i]=k:=(by simp [zj,hk]);rw [hk] at c0 hkk;have hk16:k<16:=(by omega);clear hk r1 r2;by_cases hk0:k=0
      · subst hk0;have h1:=Hi (zh5 (zj l) i hin' hnk);have h2:=Hi (zew (zj l) i hin' hnk);have c0':wr.cell? ⟨b,off+i,none⟩=some (.int .i64 0):=c0;clear c0 hnk;go_wp2;go_roundg (l.length-(i+1))
        case measure=>omega
        case rel=>exact ⟨i+1,by omega,rfl,by go_num,by rw [h1.out]; exact hB,by rw [h2.out]; exact hR,hU⟩
      · have h1:=Hi (zjz (zj l) i hin' (by omega));have h2:=Hi (zhK (zj l) i);have h3:=Yr (zj l) i hin' (by omega);rw [hnk] at h1 h3;have hpos:(0:Int)<(k:Int):=(by omega);have hle:=hpb.out k (by omega);have hp15:2^k≤2^15:=Nat.pow_le_pow_right (by omega) (by omega);have hct:=Zy (zj l) i k;have d1:=hB.cell k (vY _ _ _ (zjP (zj l) i k hk16));have f1:=hB.frz k;obtain ⟨xo,hxo⟩ : ∃ x,(qf (JV (zj l) i))[i]? =some x:=⟨_,List.getElem?_eq_getElem (by rw [kd,ZD]; omega)⟩;have d2:=Row.cell hR i hxo;have f2:=Row.frz hR i;have hne:bx≠g:=(by omega);rw [h3] at h2;have H1:=Hi h1;have H2:=Hi h2;clear h1 h2 h3 hnk hxo;have hq:fst (zj l) k+cnt ((zj l).take i) k≤32768:=(by omega);clear hle hct hp15;generalize fst (zj l) k+cnt ((zj l).take i) k=q at *;go_wp2;go_roundg (l.length-(i+1))
        case measure=>omega
        case rel =>
         refine ⟨i+1,by omega,rfl,by go_num,?_,?_,(hU.setCell (.inr hwg) _).setCell (.inr hwx) _⟩
         · rw [← H1.out,Qc];exact (hB.setFar _ hne).set k _
         · rw [← H2.out,Qc,hnl];rw [hnl] at hR;exact (hR.set i _).setFar _ (by simp [Value.ownBlock]; omega)
    · have hi:i=l.length:=(by omega);have hcz : ¬ (i:Int)<(l.length:Int):=(by omega);rw [hi,hnl] at hR;have e:JV (zj l) l.length=jo (zj l):=(by rw [← hnl]; exact zgA _);rw [e] at hR;clear hi e;go_wp2;go_returns;exact ⟨hU,.inr ⟨H3.out,g,rfl,hwg,hR⟩⟩
theorem zgz (X K i q:Nat) (hX:X<4294967296) (hq:q<4294967296) (hi:i<K) (hK:K≤32) :
 bits BinOp.or IntKind.u32 (q:Int) (bits BinOp.and IntKind.u32 ((X:Int)/2^i) 1*2^(K-1-i)%4294967296)=((q ||| X/2^i%2*2^(K-1-i):Nat):Int):=by
 have h0:X/2^i<4294967296:=Nat.lt_of_le_of_lt (Nat.div_le_self _ _) hX;have e1:(X:Int)/2^i=((X/2^i:Nat):Int):=by simp
 have e2:(2:Int)^(K-1-i)=((2^(K-1-i):Nat):Int):=by simp
 have h1:bits BinOp.and IntKind.u32 ((X/2^i:Nat):Int) 1=((X/2^i%2:Nat):Int):=by
  have:=u32_and_nat (X/2^i) 1 h0 (by omega);rw [nat_mask1] at this;exact this
 have h2:X/2^i%2<2:=Nat.mod_lt _ (by omega);have h3:2^(K-1-i)≤2^31:=Nat.pow_le_pow_right (by omega) (by omega);have h4:X/2^i%2*2^(K-1-i)≤1*2^31:=Nat.mul_le_mul (by omega) h3;rw [e1,h1,e2,← Int.natCast_mul];have h5:((X/2^i%2*2^(K-1-i):Nat):Int)%4294967296=((X/2^i%2*2^(K-1-i):Nat):Int):=by omega
 rw [h5];exact u32_or_nat _ _ hq (by omega)
theorem zbT (X K:Nat) (x k:Int) (w:World) (hx:x=(X:Nat)) (hX:X<4294967296) (hK32:K≤32) (hK:Hid ((K:Int)=max 0 (min k 32))) :
 Calls Tryz.prog 322 #[.int .u32 x,.int .i64 k] w fun e w'=>e = .returned (.int .u32 (xM X K:Nat))∧w=w':=by
 subst hx;go_enter Tryz.func322,Tryz.ntmps322;go_upto_region 1 with fail
 go_cut [1] (fun s1 wx=>s1 = .int .i64 (K:Nat)∧w=wx)
 case first =>
  go_wp2;all_goals go_meet
  all_goals (refine ⟨?_,rfl⟩; first | (rw [hK.out]; done) | (rw [hK.out]; congr 1; omega))
 case rest =>
  obtain ⟨rfl,rfl⟩:=hcut;have hK0:(0:Int)≤(K:Int):=by omega
  go_wp2;go_loopg [4,10] K (fun g s4 s10 wx => ∃ i,i≤K∧g=K-i∧s10 = .int .i64 (i:Nat)∧s4 = .int .u32 ((xM X i*2^(K-i):Nat):Int)∧w=wx)
  case atStart=>exact ⟨0,by omega,rfl,rfl,by simp [xM],rfl⟩
  case round =>
   obtain ⟨i,hi,rfl,rfl,rfl,rfl⟩:=hrel;by_cases hc:i<K
   · have hcz:(i:Int)<(K:Int):=(by omega);have hst:=Hi (zeK X K i hc);have hbd:=zcF X K i hi hK32;generalize xM X i*2^(K-i)=q at *;go_wp2;go_roundg (K-(i+1))
     case measure=>omega
     case rel =>
      refine ⟨i+1,by omega,rfl,by go_num,?_,rfl⟩;rw [← hst.out,zgz X K i q hX hbd hc hK32]
   · have hiK:i=K:=(by omega);have hcz : ¬ (i:Int)<(K:Int):=(by omega);have e:xM X i*2^(K-i)=xM X K:=(by rw [hiK]; simp);rw [e];clear e;go_wp2;go_returns;exact ⟨rfl,rfl⟩
def QJ (w:World) (n:List Nat) (g k i:Nat) (wr:World):Prop :=
 Row wr 24 1 (.slice (some ⟨g,0,none⟩) n.length n.length) n.length (qf (vI n k i))∧Upd [] w wr
theorem zb3 (a:Option Addr) (len cap:Nat) (l:List Int) (w:World) (hlen:len≤9223372036854775807) (hI:IntsIn w a len l) :
 Calls Tryz.prog 184 #[.slice a len cap] w (Kd w l):=by
 have hll:=hI.len;have HI:=Hi hI;clear hI;subst hll;have HK:=Hi (kt a l.length cap l w hlen HI.out);obtain ⟨i0,hi0,hz0,hz1,hz2⟩:=info_parts zdH;by_cases hk3:zm l=3
 · have H3:=Hi hk3;rw [hk3] at HK;clear hk3;go_enter Tryz.func184,Tryz.ntmps184;go_wp2_with fail
   refine HK.out.mono ?_;rintro e w1 ⟨rfl,rfl⟩;go_wp2;go_returns;exact ⟨.refl _ _,.inl ⟨H3.out,rfl⟩⟩
 · obtain ⟨hok,hps⟩:=qS hk3;have hkb:((zm l:Nat):Int)≠3:=(by omega);have H3:=Hi hk3;have HO:=Hi hok;generalize zm l=kk at HK hkb;clear hk3;have hnl:=yj l;have h300:=(zC HO.out).1;have hpb:=Hi (fun k hk=>Ji (zj l) hps k hk);clear hps hok;go_enter Tryz.func184,Tryz.ntmps184;go_wp2_with fail
   refine HK.out.mono ?_;rintro e w1 ⟨rfl,rfl⟩;go_wp2_with (refine kz _ rfl _ _ 244 rfl 24 i0 _ Tryz.underlying244 hi0 hz0 hz1 rfl .i64 .i64 _ _ l.length rfl rfl rfl rfl (by rw [hz2]; omega) (by unfold maxLen; omega) ?_; intro w6 hR6 hU6 hs6)
   have hRel0:QJ w (zj l) w.heap.size 1 0 w6:=by
    refine ⟨?_,hU6⟩;rw [zj9,hnl];have e:qf (List.replicate l.length 0)=List.replicate l.length (.int .u32 0):=(by simp [qf]);rw [e]; exact hR6
   clear hR6 hU6 hs6;have hgs:w.heap.size≤w.heap.size:=Nat.le_refl _;generalize hgg:w.heap.size=g at *;have HG:=Hi hgg;clear hgg;go_loopg [4,5] 15 (fun gg s4 s5 wr => ∃ k,k≤15∧gg=15-k∧s5 = .int .i64 ((k+1:Nat):Int)∧s4 = .int .u32 ((fst (zj l) k+cnt (zj l) k:Nat):Int)∧QJ w (zj l) g (k+1) 0 wr)
   case atStart=>exact ⟨0,by omega,rfl,rfl,rfl,hRel0⟩
   case round =>
    obtain ⟨k,hk,rfl,rfl,rfl,hR,hU⟩:=hrel;clear hRel0;have hle:=hpb.out k hk;have hp15:2^k≤2^15:=Nat.pow_le_pow_right (by omega) (by omega);have hfs:fst (zj l) (k+1)=2*(fst (zj l) k+cnt (zj l) k):=rfl;by_cases hc:k<15
    · have hcz:(k:Int)+1≤15:=(by omega);have hle2:=hpb.out (k+1) (by omega);have hp16:2^(k+1)≤2^15:=Nat.pow_le_pow_right (by omega) (by omega);have hf1:((2*(fst (zj l) k+cnt (zj l) k):Nat):Int)=((fst (zj l) (k+1)+cnt ((zj l).take 0) (k+1):Nat):Int):=(by rw [hfs]; simp [cnt]);have HF:=Hi hf1;clear hf1 hfs;generalize fst (zj l) k+cnt (zj l) k=q at *;go_wp2;go_loopg [4,21] l.length (fun gg s4 s21 wx => ∃ i,i≤l.length∧gg=l.length-i∧s21 = .int .i64 (i:Nat)∧s4 = .int .u32 ((fst (zj l) (k+1)+cnt ((zj l).take i) (k+1):Nat):Int)∧QJ w (zj l) g (k+1) i wx)
      case atStart=>exact ⟨0,by omega,rfl,rfl,by rw [← HF.out]; simp,hR,hU⟩
      case round =>
       obtain ⟨i,hin,rfl,rfl,rfl,hR2,hU2⟩:=hrel;have hct:=Zy (zj l) i (k+1);by_cases hc2:i<l.length
       · have hcz2:(i:Int)<(l.length:Int):=(by omega);obtain ⟨b,off,rfl,c0,r1,r2⟩:=(HI.out.pure hU2).cell i hc2;have hkk:=(zC HO.out).2 _ (List.getElem_mem hc2);obtain ⟨x,hx⟩ : ∃ x:Nat,l[i]=(x:Int):=⟨l[i].toNat,by omega⟩;have hin':i<(zj l).length:=(by omega);have hnk:(zj l)[i]=x:=(by simp [zj,hx]);have hnd:(zj l).getD i 0=x:=(by rw [List.getD,List.getElem?_eq_getElem hin']; exact hnk);rw [hx] at c0 hkk;have hcs:=Qy (zj l) i (k+1) hin';rw [hnk] at hcs;clear hx r1 r2;have hqb:fst (zj l) (k+1)+cnt ((zj l).take i) (k+1)≤32768:=(by omega);have hR3:=hR2;rw [hnl] at hR3;obtain ⟨xo,hxo⟩ : ∃ x,(qf (vI (zj l) (k+1) i))[i]? =some x:=⟨_,List.getElem?_eq_getElem (by rw [kd,Zo]; omega)⟩;have d2:=Row.cell hR3 i hxo;have f2:=Row.frz hR3 i;by_cases hxk:x=k+1
         · have h2:=zhM (zj l) (k+1) i (by rw [hnd,hxk]);have h3:=Yr (zj l) i hin' (by omega);rw [hnk,hxk] at h3;rw [h3] at h2;have H2:=Hi h2;have hxz:(x:Int)=(k:Int)+1:=(by omega);have hcs2:Hid (fst (zj l) (k+1)+cnt ((zj l).take i) (k+1)+1=fst (zj l) (k+1)+cnt ((zj l).take (i+1)) (k+1)):=Hi (by rw [hcs,if_pos ⟨hxk,by omega⟩]; omega);clear h2 h3 hcs hnk hnd hxo hxk hct hle2 hR2;generalize fst (zj l) (k+1)+cnt ((zj l).take i) (k+1)=q2 at *;go_wp2;go_roundg (l.length-(i+1))
           case measure=>omega
           case rel =>
            refine ⟨i+1,by omega,rfl,by go_num,by rw [← hcs2.out]; go_num,?_,hU2.setCell (.inr (by rw [HG.out]; exact Nat.le_refl _)) _⟩;rw [← H2.out,Qc,hnl];exact hR3.set i _
         · have h2:=Hi (ze6 (zj l) (k+1) i (by rw [hnd]; exact hxk));have hxz : ¬ (x:Int)=(k:Int)+1:=(by omega);have hcs2:Hid (fst (zj l) (k+1)+cnt ((zj l).take i) (k+1)=fst (zj l) (k+1)+cnt ((zj l).take (i+1)) (k+1)):=Hi (by rw [hcs,if_neg (fun e=>hxk e.1)]; omega);clear hcs hnk hnd hxo hxk hct hle2;generalize fst (zj l) (k+1)+cnt ((zj l).take i) (k+1)=q2 at *;go_wp2;go_roundg (l.length-(i+1))
           case measure=>omega
           case rel=>exact ⟨i+1,by omega,rfl,by go_num,by rw [hcs2.out],by rw [h2.out]; exact hR2,hU2⟩
       · have hcz2 : ¬ (i:Int)<(l.length:Int):=(by omega);have hi:i=(zj l).length:=(by omega);have hq:Hid (fst (zj l) (k+1)+cnt ((zj l).take i) (k+1)=fst (zj l) (k+1)+cnt (zj l) (k+1)):=Hi (by rw [hi,List.take_length]);have hR3:Row wr 24 1 (.slice (some ⟨g,0,none⟩) (zj l).length (zj l).length) (zj l).length (qf (vI (zj l) (k+1+1) 0)):=by
          rw [hi] at hR2; rw [← zf1]; exact hR2
         clear hi;generalize fst (zj l) (k+1)+cnt ((zj l).take i) (k+1)=q2 at *;go_wp2;go_roundg (15-(k+1))
         case measure=>omega
         case rel=>exact ⟨k+1,by omega,rfl,by go_num,by rw [hq.out],hR3,hU2⟩
    · have hk15:k=15:=(by omega);have hcz : ¬ (k:Int)+1≤15:=(by omega);rw [hk15,ziw _ (KV HO.out),hnl] at hR;clear hfs hle hp15 hk15;generalize fst (zj l) k+cnt (zj l) k=q at *;go_wp2;go_returns;exact ⟨hU,.inr ⟨H3.out,g,rfl,by rw [HG.out]; exact Nat.le_refl _,hR⟩⟩
structure DcAt (w:World) (b:Nat) (v:Value) (n:List Nat):Prop where
 blk:Blk w b (zl (cl n)++[v]) 358
 row:Row w 3 1 v (zU n 16).length (zl (zU n 16))
 far:v.ownBlock≠some b
theorem DcAt.upd {w w':World} {b:Nat} {v:Value} {n:List Nat} {fp:List Nat} (h:DcAt w b v n) (hu:Upd fp w w') (hb:b∉fp) (hv : ∀ k,v.ownBlock=some k→k∉fp):DcAt w' b v n :=
 ⟨h.blk.upd hu hb,h.row.upd hu hv,h.far⟩
def zis (w:World) (l:List Int) (e:Ending) (w':World):Prop :=
 Upd [] w w'∧(((zm l=3∨zm l=0)∧e = .returned (.tuple #[.pointer none,.bool false])) ∨
  (zm l≠3∧zm l≠0 ∧ ∃ b v,e = .returned (.tuple #[.pointer (some ⟨b,0,none⟩),.bool true])∧DcAt w' b v (zj l)∧w.heap.size≤b ∧ ∀ k,v.ownBlock=some k→w.heap.size≤k))
def zc4 (w:World) (b:Nat) (n:List Nat) (k i:Nat) (wr:World):Prop :=
 Upd [] w wr ∧ ∃ v,Blk wr b (zl (cl n)++[v]) 358∧Row wr 3 1 v ((zU n k).length+(idx n k i).length) (zl (zU n k++idx n k i))∧v.ownBlock≠some b ∧ ∀ k,v.ownBlock=some k→w.heap.size≤k
theorem zd1 (a:Option Addr) (len cap:Nat) (l:List Int) (w:World) (hlen:len≤9223372036854775807) (hI:IntsIn w a len l) :
 Calls Tryz.prog 272 #[.slice a len cap] w (zis w l):=by
 have hll:=hI.len;have HI:=Hi hI;clear hI;subst hll;have HK:=Hi (kv a l.length cap l w hlen HI.out);have HC:=Hi (fun w1 (hU:Upd [] w w1)=>JI a l.length cap l w1 hlen (HI.out.pure hU));obtain ⟨i0,hi0,hz0,hz1,hz2⟩:=info_parts qh;by_cases hk3:zm l=3
 · have H3:=Hi hk3;rw [hk3] at HK;clear hk3;go_enter Tryz.func272,Tryz.ntmps272;go_wp2_with fail
   refine HK.out.mono ?_;rintro e w1 ⟨rfl,hU1⟩;go_wp2;go_returns;exact ⟨hU1,.inl ⟨.inl H3.out,rfl⟩⟩
 · by_cases hk0:zm l=0
   · have H0:=Hi hk0;rw [hk0] at HK;clear hk0 hk3;go_enter Tryz.func272,Tryz.ntmps272;(go_wp2_with fail);refine HK.out.mono ?_;rintro e w1 ⟨rfl,hU1⟩;go_wp2;go_returns;exact ⟨hU1,.inl ⟨.inr H0.out,rfl⟩⟩
   · obtain ⟨hok,hps⟩:=qS hk3;have hkb:((zm l:Nat):Int)≠3:=(by omega);have hkb0:((zm l:Nat):Int)≠0:=(by omega);have hkf:(((zm l:Nat):Int)==3)=false:=(by simpa using hkb);have hkf0:(((zm l:Nat):Int)==0)=false:=(by simpa using hkb0);have H3:=Hi hk3;have H0:=Hi hk0;have HO:=Hi hok;generalize zm l=kk at HK hkb hkb0 hkf hkf0;clear hk3 hk0;have hnl:=yj l;have h300:=(zC HO.out).1;go_enter Tryz.func272,Tryz.ntmps272;(go_wp2_with fail);refine HK.out.mono ?_;rintro e w1 ⟨rfl,hU1⟩;(go_wp2_with fail);refine (HC.out _ (hU1.alloc _)).mono ?_;rintro e w2 ⟨hU2,⟨_,rfl⟩ | ⟨hno,_⟩⟩
     case inr=>rw [hok] at hno; cases hno
     have hlen0:(zl (cl (zj l))).length=16:=(by rw [zq,xE]);clear hok;have hBn:=(Blk.new w1 (zl (List.replicate 16 0)++[.slice none 0 0]) 358).upd hU2 (by simp);(go_wp2_with (refine ZZ rfl 356 _ _ rfl w1.heap.size rfl _ rfl 358 (zl (List.replicate 16 0)) [.slice none 0 0] hBn (by kernel_rfl) hlen0 (xi _) ?_; intro w3 hB3 hU3));have hb:w.heap.size≤w1.heap.size:=hU1.size;have hU13:Upd [] w w3:=((hU1.alloc _).then hU2).trans hU3 (fun k hk=>by simp at hk; right; omega);clear hBn hU1 hU2 hU3;generalize hg:w1.heap.size=b at *;clear hg;have hRel0:zc4 w b (zj l) 1 0 w3:=⟨hU13,.slice none 0 0,hB3,by rw [zao]; exact Row.nil _ _ _,by simp [Value.ownBlock],by simp [Value.ownBlock]⟩;clear hB3 hU13;go_loopg [6] 15 (fun g s6 wr => ∃ k,k≤15∧g=15-k∧s6 = .int .i64 ((k+1:Nat):Int)∧zc4 w b (zj l) (k+1) 0 wr)
     case atStart=>exact ⟨0,by omega,rfl,rfl,hRel0⟩
     case round =>
      obtain ⟨k,hk,rfl,rfl,hR⟩:=hrel;clear hRel0;by_cases hc:k<15
      · have hcz:(k:Int)+1≤15:=(by omega);go_wp2;go_loopg [33] l.length (fun g s33 wx => ∃ i,i≤l.length∧g=l.length-i∧s33 = .int .i64 (i:Nat)∧zc4 w b (zj l) (k+1) i wx)
        case atStart=>exact ⟨0,by omega,rfl,rfl,hR⟩
        case round =>
         obtain ⟨i,hin,rfl,rfl,hUx,v,hB,hRow,hne,hnew⟩:=hrel;clear hR;by_cases hc2:i<l.length
         · have hcz2:(i:Int)<(l.length:Int):=(by omega);obtain ⟨ba,off,rfl,c0,r1,r2⟩:=(HI.out.pure hUx).cell i hc2;have hkk:=(zC HO.out).2 _ (List.getElem_mem hc2);obtain ⟨x,hx⟩ : ∃ x:Nat,l[i]=(x:Int):=⟨l[i].toNat,by omega⟩;have hin':i<(zj l).length:=(by omega);have hnd:(zj l).getD i 0=x:=(by rw [List.getD,List.getElem?_eq_getElem hin']; simp [zj,hx]);rw [hx] at c0 hkk;have hs:=Qw (zj l) (k+1) i;rw [hnd] at hs;clear hx r1 r2 hnd;by_cases hxk:x=k+1
           · have hxz:(x:Int)=(k:Int)+1:=(by omega);rw [if_pos hxk] at hs;have H2:=Hi hs;clear hs hxk;have hl1:=kG (zj l) (k+1);have hl2:=Jv (zj l) (k+1) i;have hl3:(k+1)*(zj l).length≤15*300:=Nat.mul_le_mul (by omega) (by omega);obtain ⟨va,vc,rfl⟩:=hRow.form;have d1:=hB.cell 16 (v := .slice va ((zU (zj l) (k+1)).length+(idx (zj l) (k+1) i).length) vc) (by rw [List.getElem?_append_right (by omega),hlen0]; rfl);have f1:=hB.frz 16;have hlt:=Row.lt hRow;have hbl:=hB.lt;obtain ⟨XS,hXS⟩ : ∃ XS,zU (zj l) (k+1)++idx (zj l) (k+1) i=XS:=⟨_,rfl⟩;have hXL:(zU (zj l) (k+1)).length+(idx (zj l) (k+1) i).length=XS.length:=(by rw [← hXS,List.length_append]);have hXb:XS.length≤5000:=(by omega);rw [hXL] at hRow hlt d1 hB hne hnew;rw [hXS] at hRow;have HXS:=Hi hXS;have HXL:=Hi hXL;clear hXS hXL hl1 hl2 hl3;(go_wp2_with (at_builtin; refine zH _ rfl _ _ 57 rfl 3 i0 _ 1 8 Tryz.underlying57 hi0 hz0 hz1 hz2 rfl (by omega) _ XS.length _ rfl (hRow.alloc _) ⟨wr.heap.size,0,none⟩ 1 1 [_] rfl rfl (World.news_of_block (cs := #[_]) (t:=3) (fr:=(0,0)) (heap_alloc_new _ _)) (by simp [Value.oneCell']) (by unfold maxLen; omega) (by omega) ?_));intro v2 w4 hR4 hU4 hT4;obtain ⟨a2,c2,rfl⟩:=hR4.form;have hfar:b∉(Value.slice va XS.length vc).ownBlock.toList:=(by simpa [eq_comm] using hne);have hB4:=(hB.alloc _).upd hU4 hfar;have k4:=hB4.cell 16 (v := .slice va XS.length vc) (by rw [List.getElem?_append_right (by omega),hlen0]; rfl);have f4:=hB4.frz 16;go_wp2;go_roundg (l.length-(i+1))
             case measure=>omega
             case rel =>
              refine ⟨i+1,by omega,rfl,by go_num,((hUx.alloc _).trans hU4 ?_).setCell (.inr hb) _,.slice a2 (XS.length+1) c2,?_,?_,?_,?_⟩
              · intro k hk; right; exact hnew k (by simpa using hk)
              · have h:=hB4.set 16 (.slice a2 (XS.length+1) c2);rw [List.set_append_right _ _ (by omega),hlen0] at h;exact h
              · rw [H2.out,← List.append_assoc,HXS.out,List.length_append,← Nat.add_assoc,HXL.out];have h:=hR4.setFar (a:=⟨b,16,none⟩) (.slice a2 (XS.length+1) c2) (hT4.ne (by simp; omega) hne);rw [show zl (XS++[i])=zl XS++[.int .i64 (i:Int)] by simp [zl]];exact h
              · exact hT4.ne (by simp; omega) hne
              · intro k hk;rcases hT4 with h | ⟨g,h1,h2⟩
                · exact hnew k (by rw [← h]; exact hk)
                · rw [h1] at hk; simp at hk h2; have:=hUx.size; omega
           · have hxz : ¬ (x:Int)=(k:Int)+1:=(by omega);rw [if_neg hxk,List.append_nil] at hs;have H2:=Hi hs;clear hs hxk;go_wp2;go_roundg (l.length-(i+1))
             case measure=>omega
             case rel=>exact ⟨i+1,by omega,rfl,by go_num,hUx,v,hB,by rw [H2.out]; exact hRow,hne,hnew⟩
         · have hcz2 : ¬ (i:Int)<(l.length:Int):=(by omega);have hi:i=(zj l).length:=(by omega);have H2:=Hi (kh (zj l) (k+1) (by omega));have H3:=Hi (show (idx (zj l) (k+1+1) 0)=[] by simp [idx]);have hRow2:Row wr 3 1 v ((zU (zj l) (k+1+1)).length+(idx (zj l) (k+1+1) 0).length) (zl (zU (zj l) (k+1+1)++idx (zj l) (k+1+1) 0)):=by
            rw [H3.out,H2.out,List.append_nil,List.length_nil,Nat.add_zero,List.length_append,← hi]; exact hRow
           clear hi hRow;go_wp2;go_roundg (15-(k+1))
           case measure=>omega
           case rel=>exact ⟨k+1,by omega,rfl,by go_num,hUx,v,hB,hRow2,hne,hnew⟩
      · have hk15:k=15:=(by omega);have hcz : ¬ (k:Int)+1≤15:=(by omega);subst hk15;obtain ⟨hUx,v,hB,hRow,hne,hnew⟩:=hR;have H3':=Hi (show (idx (zj l) (15+1) 0)=[] by simp [idx]);rw [H3'.out,List.append_nil,List.length_nil,Nat.add_zero] at hRow;go_wp2;go_returns;exact ⟨hUx,.inr ⟨H3.out,H0.out,b,v,rfl,⟨hB,hRow,hne⟩,hb,hnew⟩⟩
end Go.Proofs.YtfkenhihcmmgkaaGreatDoor
