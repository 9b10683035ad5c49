/- The walks of package huff, further: firsts, Codes, Turned. -/
import Derived.Test.YtfkcdnaghndgfaaGreatDoorQAD
import Derived.Test.YtfkcdnaghndgfaaGreatDoorQAC
import Derived.Test.YtfkcdnaghndgfaaGreatDoorQAB
import Derived.Deep.CutBlock
import Derived.WalkSpells
set_option linter.unusedVariables false
set_option linter.unusedSimpArgs false
set_option linter.unusedSectionVars false
namespace Go.Proofs.YtfkcdnaghndgfaaGreatDoor
open Go.RowKit
def xL (l:List Nat):List Value:=l.map fun x:Nat => .int .u32 (x:Int)
theorem jU (l:List Nat):(xL l).length=l.length:=by simp [xL]
theorem Qn (l:List Nat) (i x:Nat):xL (l.set i x)=(xL l).set i (.int .u32 (x:Int)):=by simp [xL,List.map_set]
theorem vU (l:List Nat) (i x:Nat) (h:l[i]? =some x):(xL l)[i]? =some (.int .u32 (x:Int)):=by simp [xL,h]
theorem zbf (l:List Nat) : ∀ v∈xL l,v.oneCell'=true:=by
 intro v hv
 simp only [xL,List.mem_map] at hv
 obtain ⟨x,_,rfl⟩:=hv
 rfl
theorem zcG:(Tryz.prog.info? 257).map (·.size)=some 16:=by kernel_rfl
set_option maxRecDepth 100000 in
set_option maxHeartbeats 3200000 in
theorem zbv (n:List Nat) (w:World) (hs:qO n 16≤32768) :
 Calls Tryz.prog 213 #[.agg (zg (cl n)).toArray] w fun e w'=>e = .returned (.agg (xL (fl n)).toArray)∧Upd [] w w':=by
 have hb:=fun k hk=>Ql n hs k hk
 have HB:=Lib.hid hb
 clear hb
 have hlen0:(zg (cl n)).length=16:=by rw [zw,kF]
 have hlen1:Hid ((xL (fl n)).length=16):=Lib.hid (by rw [jU,VW])
 go_enter Tryz.func213,Tryz.ntmps213
 go_wp2
 go_loopg [3] 15 (fun g s3 wr => ∃ j,j≤15∧g=15-j∧s3 = .int .i64 ((j+1:Nat):Int)∧Blk wr w.heap.size (zg (cl n)) 246∧Blk wr (w.heap.size+1) (xL (flp n (j+1))) 257∧Upd [] w wr)
 case atStart =>
  refine ⟨0,by omega,rfl,rfl,(Blk.new w _ _).alloc _,?_,((Upd.refl _ _).alloc _).alloc _⟩
  have h:=Blk.new (w.alloc (.cells (zg (cl n)).toArray 246)) (xL (flp n (0+1))) 257
  rw [World.size_alloc,ziM] at h
  rw [ziM]
  exact h
 case round =>
  obtain ⟨j,hj,rfl,rfl,hB1,hB2,hU⟩:=hrel
  by_cases hc:j<15
  · have hcz:(j:Int)+1≤15:=by omega
    have d1:=hB1.cell j (zC _ _ _ (zcp n j (by omega)))
    have d2:=hB2.cell j (vU _ _ _ (KX n (j+1) j (by omega)))
    have d3:=hB2.cell (j+1) (vU _ _ _ (KX n (j+1) (j+1) (by omega)))
    rw [if_pos (by omega)] at d2
    rw [if_neg (by omega)] at d3
    have f3:=hB2.frz (j+1)
    have hbd:=HB.out j (by omega)
    have hp15:2^j≤2^15:=Nat.pow_le_pow_right (by omega) (by omega)
    have hst:=Lib.hid (zhz n (j+1))
    have hfs:=Lib.hid (show fst n (j+1)=2*(fst n j+cnt n j) by rfl)
    generalize fst n (j+1)=F1 at *
    generalize fst n j=F at *
    generalize cnt n j=C at *
    generalize 2^j=pj at *
    go_wp2
    have hj0:(0:Int)≤(j:Int):=by omega
    have e1:IntKind.i64.wrap (((j:Int)+1)-1)=(j:Int):=by rw [IntWalk.i64_in _ (by omega)]; omega
    go_region
    go_wp2
    go_roundg (15-(j+1))
    case measure=>omega
    case rel =>
     have hv:(((F:Int)+(C:Int))*2)=((F1:Nat):Int):=by have:=hfs.out; omega
     rw [hv]
     refine ⟨j+1,by omega,rfl,by go_num,(hB1.setFar _ (by simp)).drew,?_,(hU.setCell (.inr (by simp)) _).drew⟩
     rw [← hst.out,Qn]
     exact (hB2.set (j+1) _).drew
  · have hj15:j=15:=by omega
    have hcz : ¬ (j:Int)+1≤15:=by omega
    rw [hj15,zi4] at hB2
    clear hj15
    go_wp2_with (first
     | (refine zA rfl 257 _ rfl (w.heap.size+1) rfl 257 _ hB2 _ Tryz.underlying257 rfl (by rw [hlen1.out]; kernel_rfl) ?_)
     | (refine zt rfl 257 _ _ rfl (w.heap.size+1) rfl _ rfl 257 _ hB2 (by rw [hlen1.out]; kernel_rfl) rfl (zbf _) ?_; intro w2 hB3 hU2))
    exact bodyPost_ret (results_cell_row rfl _ _ _ _ _ _ _ rfl hB3 Tryz.underlying257 rfl (by rw [zcG]; simp [hlen1.out])) rfl ⟨rfl,hU.trans hU2 (fun k hk=>by simp at hk; right; omega)⟩
def Vr (w:World) (l:List Int) (e:Ending) (w':World):Prop :=
 Upd [] w w'∧((zi l=3∧e = .returned (.slice none 0 0)) ∨
  (zi l≠3 ∧ ∃ g,e = .returned (.slice (some ⟨g,0,none⟩) l.length l.length)∧w.heap.size≤g∧Row w' 22 1 (.slice (some ⟨g,0,none⟩) l.length l.length) l.length (xL (je (zf l)))))
def WL (w:World) (n:List Nat) (bx g:Nat) (i:Nat) (wr:World):Prop :=
 Blk wr bx (xL (nx n i)) 257∧Row wr 22 1 (.slice (some ⟨g,0,none⟩) n.length n.length) n.length (xL (JU n i))∧Upd [] w wr
set_option maxRecDepth 100000 in
set_option maxHeartbeats 3200000 in
theorem zeM (a:Option Addr) (len cap:Nat) (l:List Int) (w:World) (hlen:len≤9223372036854775807) (hI:IntsIn w a len l) :
 Calls Tryz.prog 185 #[.slice a len cap] w (Vr w l):=by
 have hll:=hI.len
 have HI:=Lib.hid hI
 clear hI
 subst hll
 have HK:=Lib.hid (zfD a l.length cap l w hlen HI.out)
 have HC:=Lib.hid (fun w1 (hU:Upd [] w w1)=>Yx a l.length cap l w1 hlen (HI.out.pure hU))
 obtain ⟨i0,hi0,hz0,hz1,hz2⟩:=info_parts zc7
 by_cases hk3:zi l=3
 · have H3:=Lib.hid hk3
   rw [hk3] at HK
   clear hk3
   go_enter Tryz.func185,Tryz.ntmps185
   go_wp2_with fail
   refine HK.out.mono ?_
   rintro e w1 ⟨rfl,hU1⟩
   go_wp2
   go_returns
   exact ⟨hU1,.inl ⟨H3.out,rfl⟩⟩
 · obtain ⟨hok,hps⟩:=xF hk3
   have hkb:((zi l:Nat):Int)≠3:=by omega
   have H3:=Lib.hid hk3
   have HO:=Lib.hid hok
   generalize zi l=kk at HK hkb
   clear hk3
   go_enter Tryz.func185,Tryz.ntmps185
   go_wp2_with fail
   refine HK.out.mono ?_
   rintro e w1 ⟨rfl,hU1⟩
   go_wp2_with fail
   refine (HC.out w1 hU1).mono ?_
   rintro e w2 ⟨hU2,⟨_,rfl⟩ | ⟨hno,_⟩⟩
   case inr=>rw [hok] at hno; cases hno
   have hlen0:(zg (cl (zf l))).length=16:=by rw [zw,kF]
   have hlen1:(xL (fl (zf l))).length=16:=by rw [jU,VW]
   clear hok
   have hnl:=yQ l
   have h300:=(zH HO.out).1
   go_wp2_with (first
    | (refine zt rfl 246 _ _ rfl w2.heap.size rfl _ rfl 246 _ (Blk.new w2 (zg (List.replicate 16 0)) 246) (by kernel_rfl) hlen0 (xi _) ?_; intro w3 hB3 hU3)
    | (refine zA rfl 246 _ rfl w2.heap.size rfl 246 _ hB3 _ Tryz.underlying246 rfl (by rw [hlen0]; kernel_rfl) ?_))
   refine (zbv (zf l) _ hps).mono ?_
   rintro e w4 ⟨rfl,hU4⟩
   have hU34:Upd [] w w4:=(((hU1.then hU2).alloc _).trans hU3 (fun k hk=>by simp at hk; right; have:=(hU1.then hU2).size; omega)).then hU4
   clear hB3 hU3 hU4 hU2 hU1
   go_wp2_with (first
    | (refine zt rfl 257 _ _ rfl w4.heap.size rfl _ rfl 257 _ (Blk.new w4 (xL (List.replicate 16 0)) 257) (by kernel_rfl) hlen1 (zbf _) ?_; intro w5 hB5 hU5)
    | (refine Jm _ rfl _ _ 161 rfl 22 i0 _ Tryz.underlying161 hi0 hz0 hz1 rfl .i64 .i64 _ _ l.length rfl rfl rfl rfl (by rw [hz2]; omega) (by unfold maxLen; omega) ?_; intro w6 hR6 hU6 hs6))
   have hU56:Upd [] w w6:=((hU34.alloc _).trans hU5 (fun k hk=>by simp at hk; right; have:=hU34.size; omega)).then hU6
   have hB6:=hB5.upd hU6 (by simp)
   have hg5:w4.heap.size<w5.heap.size:=hB5.lt
   have hwg:w.heap.size≤w5.heap.size:=by have:=hU34.size; omega
   have hwx:w.heap.size≤w4.heap.size:=hU34.size
   generalize w5.heap.size=g at *
   generalize w4.heap.size=bx at *
   clear hB5 hU5 hU6 hU34
   have hpb:=Lib.hid (fun k hk=>Ql (zf l) hps k hk)
   have hRel0:WL w (zf l) bx g 0 w6:=by
    refine ⟨by rw [zjE]; exact hB6,?_,hU56⟩
    rw [zi0,hnl]
    have e:xL (List.replicate l.length 0)=List.replicate l.length (.int .u32 0):=by simp [xL]
    rw [e]; exact hR6
   clear hB6 hR6 hU56 hs6 hps
   go_loopg [24] l.length (fun gg s24 wr => ∃ i,i≤l.length∧gg=l.length-i∧s24 = .int .i64 (i:Nat)∧WL w (zf l) bx g i wr)
   case atStart=>exact ⟨0,by omega,rfl,rfl,hRel0⟩
   case round =>
    obtain ⟨i,hin,rfl,rfl,hB,hR,hU⟩:=hrel
    clear hRel0
    by_cases hc:i<l.length
    · have hcz:(i:Int)<(l.length:Int):=by omega
      obtain ⟨b,off,rfl,c0,r1,r2⟩:=(HI.out.pure hU).cell i hc
      have hkk:=(zH HO.out).2 _ (List.getElem_mem hc)
      obtain ⟨k,hk⟩ : ∃ k:Nat,l[i]=(k:Int):=⟨l[i].toNat,by omega⟩
      have hin':i<(zf l).length:=by omega
      have hnk:(zf l)[i]=k:=by simp [zf,hk]
      rw [hk] at c0 hkk
      have hk16:k<16:=by omega
      clear hk r1 r2
      by_cases hk0:k=0
      · subst hk0
        have h1:=Lib.hid (zhs (zf l) i hin' hnk)
        have h2:=Lib.hid (zdN (zf l) i hin' hnk)
        have c0':wr.cell? ⟨b,off+i,none⟩=some (.int .i64 0):=c0
        clear c0 hnk
        go_wp2
        go_roundg (l.length-(i+1))
        case measure=>omega
        case rel=>exact ⟨i+1,by omega,rfl,by go_num,by rw [h1.out]; exact hB,by rw [h2.out]; exact hR,hU⟩
      · have h1:=Lib.hid (ziR (zf l) i hin' (by omega))
        have h2:=Lib.hid (zgs (zf l) i)
        have h3:=Yv (zf l) i hin' (by omega)
        rw [hnk] at h1 h3
        have hpos:(0:Int)<(k:Int):=by omega
        have hle:=hpb.out k (by omega)
        have hp15:2^k≤2^15:=Nat.pow_le_pow_right (by omega) (by omega)
        have hct:=Zw (zf l) i k
        have d1:=hB.cell k (vU _ _ _ (zi3 (zf l) i k hk16))
        have f1:=hB.frz k
        obtain ⟨xo,hxo⟩ : ∃ x,(xL (JU (zf l) i))[i]? =some x:=⟨_,List.getElem?_eq_getElem (by rw [jU,Zc]; omega)⟩
        have d2:=Row.cell hR i hxo
        have f2:=Row.frz hR i
        have hne:bx≠g:=by omega
        rw [h3] at h2
        have H1:=Lib.hid h1
        have H2:=Lib.hid h2
        clear h1 h2 h3 hnk hxo
        have hq:fst (zf l) k+cnt ((zf l).take i) k≤32768:=by omega
        clear hle hct hp15
        generalize fst (zf l) k+cnt ((zf l).take i) k=q at *
        go_wp2
        go_roundg (l.length-(i+1))
        case measure=>omega
        case rel =>
         refine ⟨i+1,by omega,rfl,by go_num,?_,?_,(hU.setCell (.inr hwg) _).setCell (.inr hwx) _⟩
         · rw [← H1.out,Qn]
           exact (hB.setFar _ hne).set k _
         · rw [← H2.out,Qn,hnl]
           rw [hnl] at hR
           exact (hR.set i _).setFar _ (by simp [Value.ownBlock]; omega)
    · have hi:i=l.length:=by omega
      have hcz : ¬ (i:Int)<(l.length:Int):=by omega
      rw [hi,hnl] at hR
      have e:JU (zf l) l.length=je (zf l):=by rw [← hnl]; exact zg0 _
      rw [e] at hR
      clear hi e
      go_wp2
      go_returns
      exact ⟨hU,.inr ⟨H3.out,g,rfl,hwg,hR⟩⟩
theorem zgu (X K i q:Nat) (hX:X<4294967296) (hq:q<4294967296) (hi:i<K) (hK:K≤32) :
 bits BinOp.or IntKind.u32 (q:Int) (bits BinOp.and IntKind.u32 ((X:Int)/2^i) 1*2^(K-1-i)%4294967296)=((q ||| X/2^i%2*2^(K-1-i):Nat):Int):=by
 have h0:X/2^i<4294967296:=Nat.lt_of_le_of_lt (Nat.div_le_self _ _) hX
 have e1:(X:Int)/2^i=((X/2^i:Nat):Int):=by simp
 have e2:(2:Int)^(K-1-i)=((2^(K-1-i):Nat):Int):=by simp
 have h1:bits BinOp.and IntKind.u32 ((X/2^i:Nat):Int) 1=((X/2^i%2:Nat):Int):=by
  have:=u32_and_nat (X/2^i) 1 h0 (by omega)
  rw [nat_mask1] at this
  exact this
 have h2:X/2^i%2<2:=Nat.mod_lt _ (by omega)
 have h3:2^(K-1-i)≤2^31:=Nat.pow_le_pow_right (by omega) (by omega)
 have h4:X/2^i%2*2^(K-1-i)≤1*2^31:=Nat.mul_le_mul (by omega) h3
 rw [e1,h1,e2,← Int.natCast_mul]
 have h5:((X/2^i%2*2^(K-1-i):Nat):Int)%4294967296=((X/2^i%2*2^(K-1-i):Nat):Int):=by omega
 rw [h5]
 exact u32_or_nat _ _ hq (by omega)
set_option maxRecDepth 100000 in
set_option maxHeartbeats 1600000 in
theorem zcb (X K:Nat) (x k:Int) (w:World) (hx:x=(X:Nat)) (hX:X<4294967296) (hK32:K≤32) (hK:Hid ((K:Int)=max 0 (min k 32))) :
 Calls Tryz.prog 186 #[.int .u32 x,.int .i64 k] w fun e w'=>e = .returned (.int .u32 (yM X K:Nat))∧w=w':=by
 subst hx
 go_enter Tryz.func186,Tryz.ntmps186
 go_upto_region 1 with fail
 go_cut [1] (fun s1 wx=>s1 = .int .i64 (K:Nat)∧w=wx)
 case first =>
  go_wp2
  all_goals go_meet
  all_goals (refine ⟨?_,rfl⟩; first | (rw [hK.out]; done) | (rw [hK.out]; congr 1; omega))
 case rest =>
  obtain ⟨rfl,rfl⟩:=hcut
  have hK0:(0:Int)≤(K:Int):=by omega
  go_wp2
  go_loopg [4,10] K (fun g s4 s10 wx => ∃ i,i≤K∧g=K-i∧s10 = .int .i64 (i:Nat)∧s4 = .int .u32 ((yM X i*2^(K-i):Nat):Int)∧w=wx)
  case atStart=>exact ⟨0,by omega,rfl,rfl,by simp [yM],rfl⟩
  case round =>
   obtain ⟨i,hi,rfl,rfl,rfl,rfl⟩:=hrel
   by_cases hc:i<K
   · have hcz:(i:Int)<(K:Int):=by omega
     have hst:=Lib.hid (zeF X K i hc)
     have hbd:=zbl X K i hi hK32
     generalize yM X i*2^(K-i)=q at *
     go_wp2
     go_roundg (K-(i+1))
     case measure=>omega
     case rel =>
      refine ⟨i+1,by omega,rfl,by go_num,?_,rfl⟩
      rw [← hst.out,zgu X K i q hX hbd hc hK32]
   · have hiK:i=K:=by omega
     have hcz : ¬ (i:Int)<(K:Int):=by omega
     have e:yM X i*2^(K-i)=yM X K:=by rw [hiK]; simp
     rw [e]
     clear e
     go_wp2
     go_returns
     exact ⟨rfl,rfl⟩
end Go.Proofs.YtfkcdnaghndgfaaGreatDoor
namespace Go.Proofs.YtfkcdnaghndgfaaGreatDoor
open Go.RowKit
def Qw (w:World) (n:List Nat) (g k i:Nat) (wr:World):Prop :=
 Row wr 22 1 (.slice (some ⟨g,0,none⟩) n.length n.length) n.length (xL (vD n k i))∧Upd [] w wr
set_option maxRecDepth 100000 in
set_option maxHeartbeats 3200000 in
theorem zcw (a:Option Addr) (len cap:Nat) (l:List Int) (w:World) (hlen:len≤9223372036854775807) (hI:IntsIn w a len l) :
 Calls Tryz.prog 106 #[.slice a len cap] w (Vr w l):=by
 have hll:=hI.len
 have HI:=Lib.hid hI
 clear hI
 subst hll
 have HK:=Lib.hid (kG a l.length cap l w hlen HI.out)
 obtain ⟨i0,hi0,hz0,hz1,hz2⟩:=info_parts zc7
 by_cases hk3:zi l=3
 · have H3:=Lib.hid hk3
   rw [hk3] at HK
   clear hk3
   go_enter Tryz.func106,Tryz.ntmps106
   go_wp2_with fail
   refine HK.out.mono ?_
   rintro e w1 ⟨rfl,rfl⟩
   go_wp2
   go_returns
   exact ⟨.refl _ _,.inl ⟨H3.out,rfl⟩⟩
 · obtain ⟨hok,hps⟩:=xF hk3
   have hkb:((zi l:Nat):Int)≠3:=by omega
   have H3:=Lib.hid hk3
   have HO:=Lib.hid hok
   generalize zi l=kk at HK hkb
   clear hk3
   have hnl:=yQ l
   have h300:=(zH HO.out).1
   have hpb:=Lib.hid (fun k hk=>Ql (zf l) hps k hk)
   clear hps hok
   go_enter Tryz.func106,Tryz.ntmps106
   go_wp2_with fail
   refine HK.out.mono ?_
   rintro e w1 ⟨rfl,rfl⟩
   go_wp2_with (refine Jm _ rfl _ _ 161 rfl 22 i0 _ Tryz.underlying161 hi0 hz0 hz1 rfl .i64 .i64 _ _ l.length rfl rfl rfl rfl (by rw [hz2]; omega) (by unfold maxLen; omega) ?_; intro w6 hR6 hU6 hs6)
   have hRel0:Qw w (zf l) w.heap.size 1 0 w6:=by
    refine ⟨?_,hU6⟩
    rw [zjh,hnl]
    have e:xL (List.replicate l.length 0)=List.replicate l.length (.int .u32 0):=by simp [xL]
    rw [e]; exact hR6
   clear hR6 hU6 hs6
   have hgs:w.heap.size≤w.heap.size:=Nat.le_refl _
   generalize hgg:w.heap.size=g at *
   have HG:=Lib.hid hgg
   clear hgg
   go_loopg [4,5] 15 (fun gg s4 s5 wr => ∃ k,k≤15∧gg=15-k∧s5 = .int .i64 ((k+1:Nat):Int)∧s4 = .int .u32 ((fst (zf l) k+cnt (zf l) k:Nat):Int)∧Qw w (zf l) g (k+1) 0 wr)
   case atStart=>exact ⟨0,by omega,rfl,rfl,rfl,hRel0⟩
   case round =>
    obtain ⟨k,hk,rfl,rfl,rfl,hR,hU⟩:=hrel
    clear hRel0
    have hle:=hpb.out k hk
    have hp15:2^k≤2^15:=Nat.pow_le_pow_right (by omega) (by omega)
    have hfs:fst (zf l) (k+1)=2*(fst (zf l) k+cnt (zf l) k):=rfl
    by_cases hc:k<15
    · have hcz:(k:Int)+1≤15:=by omega
      have hle2:=hpb.out (k+1) (by omega)
      have hp16:2^(k+1)≤2^15:=Nat.pow_le_pow_right (by omega) (by omega)
      have hf1:((2*(fst (zf l) k+cnt (zf l) k):Nat):Int)=((fst (zf l) (k+1)+cnt ((zf l).take 0) (k+1):Nat):Int):=by rw [hfs]; simp [cnt]
      have HF:=Lib.hid hf1
      clear hf1 hfs
      generalize fst (zf l) k+cnt (zf l) k=q at *
      go_wp2
      go_loopg [4,21] l.length (fun gg s4 s21 wx => ∃ i,i≤l.length∧gg=l.length-i∧s21 = .int .i64 (i:Nat)∧s4 = .int .u32 ((fst (zf l) (k+1)+cnt ((zf l).take i) (k+1):Nat):Int)∧Qw w (zf l) g (k+1) i wx)
      case atStart=>exact ⟨0,by omega,rfl,rfl,by rw [← HF.out]; simp,hR,hU⟩
      case round =>
       obtain ⟨i,hin,rfl,rfl,rfl,hR2,hU2⟩:=hrel
       have hct:=Zw (zf l) i (k+1)
       by_cases hc2:i<l.length
       · have hcz2:(i:Int)<(l.length:Int):=by omega
         obtain ⟨b,off,rfl,c0,r1,r2⟩:=(HI.out.pure hU2).cell i hc2
         have hkk:=(zH HO.out).2 _ (List.getElem_mem hc2)
         obtain ⟨x,hx⟩ : ∃ x:Nat,l[i]=(x:Int):=⟨l[i].toNat,by omega⟩
         have hin':i<(zf l).length:=by omega
         have hnk:(zf l)[i]=x:=by simp [zf,hx]
         have hnd:(zf l).getD i 0=x:=by rw [List.getD,List.getElem?_eq_getElem hin']; exact hnk
         rw [hx] at c0 hkk
         have hcs:=JR (zf l) i (k+1) hin'
         rw [hnk] at hcs
         clear hx r1 r2
         have hqb:fst (zf l) (k+1)+cnt ((zf l).take i) (k+1)≤32768:=by omega
         have hR3:=hR2
         rw [hnl] at hR3
         obtain ⟨xo,hxo⟩ : ∃ x,(xL (vD (zf l) (k+1) i))[i]? =some x:=⟨_,List.getElem?_eq_getElem (by rw [jU,Zr]; omega)⟩
         have d2:=Row.cell hR3 i hxo
         have f2:=Row.frz hR3 i
         by_cases hxk:x=k+1
         · have h2:=zgP (zf l) (k+1) i (by rw [hnd,hxk])
           have h3:=Yv (zf l) i hin' (by omega)
           rw [hnk,hxk] at h3
           rw [h3] at h2
           have H2:=Lib.hid h2
           have hxz:(x:Int)=(k:Int)+1:=by omega
           have hcs2:Hid (fst (zf l) (k+1)+cnt ((zf l).take i) (k+1)+1=fst (zf l) (k+1)+cnt ((zf l).take (i+1)) (k+1)):=Lib.hid (by rw [hcs,if_pos ⟨hxk,by omega⟩]; omega)
           clear h2 h3 hcs hnk hnd hxo hxk hct hle2 hR2
           generalize fst (zf l) (k+1)+cnt ((zf l).take i) (k+1)=q2 at *
           go_wp2
           go_roundg (l.length-(i+1))
           case measure=>omega
           case rel =>
            refine ⟨i+1,by omega,rfl,by go_num,by rw [← hcs2.out]; go_num,?_,hU2.setCell (.inr (by rw [HG.out]; exact Nat.le_refl _)) _⟩
            rw [← H2.out,Qn,hnl]
            exact hR3.set i _
         · have h2:=Lib.hid (zfj (zf l) (k+1) i (by rw [hnd]; exact hxk))
           have hxz : ¬ (x:Int)=(k:Int)+1:=by omega
           have hcs2:Hid (fst (zf l) (k+1)+cnt ((zf l).take i) (k+1)=fst (zf l) (k+1)+cnt ((zf l).take (i+1)) (k+1)):=Lib.hid (by rw [hcs,if_neg (fun e=>hxk e.1)]; omega)
           clear hcs hnk hnd hxo hxk hct hle2
           generalize fst (zf l) (k+1)+cnt ((zf l).take i) (k+1)=q2 at *
           go_wp2
           go_roundg (l.length-(i+1))
           case measure=>omega
           case rel=>exact ⟨i+1,by omega,rfl,by go_num,by rw [hcs2.out],by rw [h2.out]; exact hR2,hU2⟩
       · have hcz2 : ¬ (i:Int)<(l.length:Int):=by omega
         have hi:i=(zf l).length:=by omega
         have hq:Hid (fst (zf l) (k+1)+cnt ((zf l).take i) (k+1)=fst (zf l) (k+1)+cnt (zf l) (k+1)):=Lib.hid (by rw [hi,List.take_length])
         have hR3:Row wr 22 1 (.slice (some ⟨g,0,none⟩) (zf l).length (zf l).length) (zf l).length (xL (vD (zf l) (k+1+1) 0)):=by
          rw [hi] at hR2; rw [← zeB]; exact hR2
         clear hi
         generalize fst (zf l) (k+1)+cnt ((zf l).take i) (k+1)=q2 at *
         go_wp2
         go_roundg (15-(k+1))
         case measure=>omega
         case rel=>exact ⟨k+1,by omega,rfl,by go_num,by rw [hq.out],hR3,hU2⟩
    · have hk15:k=15:=by omega
      have hcz : ¬ (k:Int)+1≤15:=by omega
      rw [hk15,zih _ (kU HO.out),hnl] at hR
      clear hfs hle hp15 hk15
      generalize fst (zf l) k+cnt (zf l) k=q at *
      go_wp2
      go_returns
      exact ⟨hU,.inr ⟨H3.out,g,rfl,by rw [HG.out]; exact Nat.le_refl _,hR⟩⟩
end Go.Proofs.YtfkcdnaghndgfaaGreatDoor
namespace Go.Proofs.YtfkcdnaghndgfaaGreatDoor
open Go.RowKit
structure DcAt (w:World) (b:Nat) (v:Value) (n:List Nat):Prop where
 blk:Blk w b (zg (cl n)++[v]) 248
 row:Row w 3 1 v (zbo n 16).length (zg (zbo n 16))
 far:v.ownBlock≠some b
theorem DcAt.upd {w w':World} {b:Nat} {v:Value} {n:List Nat} {fp:List Nat} (h:DcAt w b v n) (hu:Upd fp w w') (hb:b∉fp) (hv : ∀ k,v.ownBlock=some k→k∉fp):DcAt w' b v n :=
 ⟨h.blk.upd hu hb,h.row.upd hu hv,h.far⟩
end Go.Proofs.YtfkcdnaghndgfaaGreatDoor
namespace Go.Proofs.YtfkcdnaghndgfaaGreatDoor
open Go.RowKit
def kg (s:ByteArray):List Bool:=zn (za s)
theorem KJ (s:ByteArray):(kg s).length=8*s.size:=by rw [kg,zK,zc]
def zW (s:ByteArray) (at_ n:Nat):Nat:=val (((kg s).drop at_).take n)
theorem vW (s:ByteArray) (a n:Nat):zW s a n<2^n:=zaJ _ _ _
theorem zbH (s:ByteArray) (a:Nat):zW s a 0=0:=by simp [zW,val]
theorem ze8 (s:ByteArray) (a m n:Nat) (h:a+m≤8*s.size):zW s a (m+n)=zW s a m+2^m*zW s (a+m) n:=by
 unfold zW
 have h1:((kg s).drop a).take (m+n)=((kg s).drop a).take m++((kg s).drop (a+m)).take n:=by
  rw [List.take_add,List.drop_drop]
 have h2:(((kg s).drop a).take m).length=m:=by rw [List.length_take,List.length_drop,KJ]; omega
 rw [h1,jF,h2]
theorem YN (l:List Nat) (q:Nat):(zn l).drop (8*q)=zn (l.drop q):=by
 induction l generalizing q with
 | nil=>simp [zn]
 | cons x l ih =>
   cases q with
   | zero=>simp
   | succ q =>
     have e:zn (x::l)=low 8 x++zn l:=rfl
     rw [e,show 8*(q+1)=(low 8 x).length+8*q by rw [ze]; omega,← List.drop_drop,List.drop_left,ih]
     rfl
theorem zbW (s:ByteArray) (q f t:Nat) (hq:q<s.size) (hft:f+t≤8):zW s (8*q+f) t=s[q].toNat/2^f%2^t:=by
 have hb:q<(za s).length:=by rw [zc]; exact hq
 have e1:(kg s).drop (8*q+f)=(zn ((za s).drop q)).drop f:=by
  rw [← List.drop_drop,kg,YN]
 have e2:(za s).drop q=(za s)[q]::(za s).drop (q+1):=List.drop_eq_getElem_cons hb
 have e3:zn ((za s).drop q)=low 8 (za s)[q]++zn ((za s).drop (q+1)):=by rw [e2]; rfl
 unfold zW
 rw [e1,e3,List.drop_append_of_le_length (by rw [ze]; omega),List.take_append_of_le_length (by rw [List.length_drop,ze]; omega),Xe _ _ (by rw [List.length_drop,ze]; omega),Xl _ _ (by rw [ze]; omega),Qm,zM s q hq hb]
 have hlt:=s[q].toNat_lt
 rw [Nat.mod_eq_of_lt hlt]
def RdAt (w:World) (b:Nat) (t:TypeId) (s:ByteArray) (at_:Nat) (bad:Bool):Prop:=Blk w b [.string s,.int .i64 (at_:Nat),.bool bad] t∧at_≤8*s.size
theorem RdAt.upd {w w':World} {b:Nat} {t:TypeId} {s:ByteArray} {at_:Nat} {bad:Bool} {fp:List Nat} (h:RdAt w b t s at_ bad) (hU:Upd fp w w') (hn:b∉fp):RdAt w' b t s at_ bad:=⟨h.1.upd hU hn,h.2⟩
def jx (s:ByteArray) (at_:Nat) (bad:Bool) (n:Int):Bool:=bad||decide (n<0)||decide (32<n)||decide (((8*s.size-at_:Nat):Int)<n)
def jT (s:ByteArray) (at_:Nat) (bad:Bool) (n:Int):Nat:=if jx s at_ bad n then 0 else zW s at_ n.toNat
def rdTo (s:ByteArray) (at_:Nat) (bad:Bool) (n:Int):Nat:=if jx s at_ bad n then at_ else at_+n.toNat
def Jq (at_:Nat) (bad:Bool):Nat:=if bad then at_ else 8*((at_+7)/8)
def qd (s:ByteArray) (at_:Nat) (bad:Bool) (n:Int):Bool:=bad||decide (n<0)||decide (((s.size-(at_+7)/8:Nat):Int)<n)
def qv (s:ByteArray) (at_:Nat) (bad:Bool) (n:Int):ByteArray:=if qd s at_ bad n then ⟨#[]⟩ else s.extract ((at_+7)/8) ((at_+7)/8+n.toNat)
def ve (s:ByteArray) (at_:Nat) (bad:Bool) (n:Int):Nat:=if qd s at_ bad n then Jq at_ bad else 8*((at_+7)/8)+8*n.toNat
theorem zhT (s:ByteArray) (a:Nat) (bad:Bool) (h:a≤8*s.size):Jq a bad≤8*s.size:=by unfold Jq; split<;>omega
theorem zi2 (w:World) (s:ByteArray) (t:TypeId):RdAt (w.alloc (.cells #[.string s,.int .i64 0,.bool false] t)) w.heap.size t s 0 false :=
 ⟨Blk.new w [.string s,.int .i64 0,.bool false] t,Nat.zero_le _⟩
def XW (w:World) (b:Nat) (t:TypeId) (s:ByteArray) (r:Value) (a':Nat) (bad':Bool) (e:Ending) (w':World):Prop :=
 e = .returned r∧RdAt w' b t s a' bad'∧Upd [b] w w'
def zaL (w:World) (b:Nat) (t:TypeId) (s:ByteArray) (a':Nat) (w':World):Prop:=RdAt w' b t s a' false∧Upd [b] w w'
end Go.Proofs.YtfkcdnaghndgfaaGreatDoor
