/- The walks of package bitio's Writer, further: Align, Text, Len, Bytes; and all of them of nil. -/
import Derived.Handy
import Derived.Test.YtfkcdnaghndgfaaGreatDoorQAC
import Derived.Deep.CutBlock
import Derived.Test.YtfkcdnaghndgfaaGreatDoorQAB
import Derived.Test.YtfkcdnaghndgfaaGreatDoorQAA
set_option linter.unusedVariables false
set_option linter.unusedSimpArgs false
set_option linter.unusedSectionVars false
namespace Go.Proofs.YtfkcdnaghndgfaaGreatDoor
open Go.RowKit
set_option maxHeartbeats 800000 in
theorem Vd (b:Nat) (w:World) (v:Value) (L:List Bool) (hW:WrAt w b v L (L.length/8)) (hL:L.length≤1099511627776) :
 Calls Tryz.prog 149 #[.pointer (some ⟨b,0,none⟩)] w (XU w b v (qq L)):=by
 have h2:=hW.blk.cell 2 rfl
 by_cases hz:L.length%8=0
 · have hn:L.length-8*(L.length/8)=0:=by omega
   rw [hn] at h2
   rw [Vn _ hz]
   clear hn
   go_enter Tryz.func149,Tryz.ntmps149
   go_wp2
   go_returns
   exact ⟨rfl,v,hW,.refl _ _,.refl _ _⟩
 · have hn1:(1:Int)≤((L.length-8*(L.length/8):Nat):Int):=by omega
   have hn7:((L.length-8*(L.length/8):Nat):Int)≤7:=by omega
   have hK:Hid (((8-(L.length-8*(L.length/8)):Nat):Int)=max 0 (min (8-((L.length-8*(L.length/8):Nat):Int)) 32)):=Lib.hid (by omega)
   have hc:=yo b 0 0 (8-((L.length-8*(L.length/8):Nat):Int)) (8-(L.length-8*(L.length/8))) w v L rfl (by omega) hW hL (by omega) hK
   have e:L++low (8-(L.length-8*(L.length/8))) 0=qq L:=by
    rw [zg0,qq]; congr 2; omega
   rw [e] at hc
   have HC:=Lib.hid hc
   clear hc e hK
   generalize L.length-8*(L.length/8)=r at *
   go_enter Tryz.func149,Tryz.ntmps149
   go_wp2_with fail
   refine HC.out.mono ?_
   rintro e w' ⟨rfl,hp⟩
   go_wp2
   go_returns
   exact ⟨rfl,hp⟩
set_option maxHeartbeats 1600000 in
theorem zfD (b:Nat) (s:ByteArray) (w:World) (v:Value) (L:List Bool) (hW:WrAt w b v L (L.length/8)) (hL:L.length≤1099511627776) (hs:s.size≤1099511627776) :
 Calls Tryz.prog 150 #[.pointer (some ⟨b,0,none⟩),.string s] w (XU w b v (qq L++zv (za s))):=by
 obtain ⟨i0,hi,hz0,hz1,hz2⟩:=info_parts Za
 have HC:=Lib.hid (Vd b w v L hW hL)
 have hlen:Hid ((qq L).length=8*((qq L).length/8)):=Lib.hid (by rw [xX]; omega)
 have hle:(qq L).length≤1099511627790:=by rw [xX]; omega
 generalize qq L=L' at *
 go_enter Tryz.func150,Tryz.ntmps150
 go_wp2_with fail
 refine HC.out.mono ?_
 rintro e w1 ⟨rfl,v1,hW1,hU1,hT1⟩
 have h0:=hW1.blk.cell 0 rfl
 go_wp2_with (at_builtin; refine vX _ rfl _ _ 75 9 rfl 5 i0 Tryz.underlying75 Tryz.underlying9 hi hz0 hz1 hz2 v1 _ _ rfl hW1.row s rfl (by unfold maxLen; omega) (by omega) ?_)
 intro v2 w2 hR2 hU2 hT2
 obtain ⟨a2,c2,rfl⟩:=hR2.form
 have hB2:=hW1.blk.upd hU2 (by have:=hW1.far; simpa using this)
 have f0:=hB2.frz 0
 have k0:=hB2.cell 0 rfl
 go_wp2
 go_returns
 have hm:(L'++zv (za s)).length/8=L'.length/8+s.size:=by
  rw [List.length_append,yN,zc]; have:=hlen.out; omega
 have hfar:=hT2.ne hW1.blk.lt hW1.far
 refine ⟨rfl,_,⟨?_,?_,by omega,hfar⟩,?_,hT1.trans hU1.size hT2⟩
 · have h:=hB2.set 0 (.slice a2 (L'.length/8+s.size) c2)
   rw [zaa _ _ (by have:=hlen.out; omega)] at h
   rw [zaa _ _ (by rw [hm,List.length_append,yN,zc]; have:=hlen.out; omega)]
   have e1:L'.length-8*(L'.length/8)=0:=by have:=hlen.out; omega
   have e2:(L'++zv (za s)).length-8*((L'++zv (za s)).length/8)=0:=by rw [hm,List.length_append,yN,zc]; have:=hlen.out; omega
   rw [e1] at h
   rw [e2]
   exact h
 · rw [hm]
   have e3:jV (L'++zv (za s)) (L'.length/8+s.size)=jV L' (L'.length/8)++za s:=by
    rw [← zc s]; exact zdR L' _ hlen.out _ (zV s)
   rw [e3,kX,← vI]
   exact hR2.setFar _ hfar
 · refine (hU1.trans hU2 (fun k hk=>?_)).setCell (.inl (by simp [zU])) _
   exact (hT1.fp k hk).imp (fun h=>by simp [zU]; right; simpa using h) id
set_option maxHeartbeats 1600000 in
theorem zd0 (b:Nat) (w:World) (v:Value) (L:List Bool) (hW:WrAt w b v L (L.length/8)) (hL:L.length≤1099511627776) :
 Calls Tryz.prog 79 #[.pointer (some ⟨b,0,none⟩)] w fun e w'=>e = .returned (.string (zd (pack L)))∧Upd [] w w':=by
 have h0:=hW.blk.cell 0 rfl
 have h1:=hW.blk.cell 1 rfl
 have h2:=hW.blk.cell 2 rfl
 have hc:=fun W' h=>qC (P:=Tryz.prog) W' 75 9 5 Tryz.underlying75 Tryz.underlying5 Tryz.underlying9 (v:=v) (n:=L.length/8) (l:=jV L (L.length/8)) h
 have hlo:=WB L (L.length/8)
 by_cases hz:L.length%8=0
 · have hn:L.length-8*(L.length/8)=0:=by omega
   have hp:pack L=jV L (L.length/8):=by unfold pack; congr 1; omega
   have HP:=Lib.hid hp
   have h2':w.cell? ⟨b,2,none⟩=some (.int .i64 0):=by rw [h2,hn]; rfl
   clear hp hn hz h2
   have hcw:=hc w hW.row
   clear hc
   go_enter Tryz.func79,Tryz.ntmps79
   go_wp2
   go_returns
   exact ⟨by rw [HP.out]; rfl,.refl _ _⟩
 · have hn1:(1:Int)≤((L.length-8*(L.length/8):Nat):Int):=by omega
   have hp:pack L=jV L (L.length/8)++[rest L (L.length/8)]:=by
    unfold pack
    rw [show (L.length+7)/8=L.length/8+1 by omega,QY,zbV _ _ (by omega)]
   have hr:rest L (L.length/8)<256:=Nat.lt_of_lt_of_le (zcZ L _) (Nat.le_trans (Nat.pow_le_pow_right (by omega) (show L.length-8*(L.length/8)≤8 by omega)) (by decide))
   have HP:=Lib.hid hp
   clear hp hz
   go_enter Tryz.func79,Tryz.ntmps79
   go_wp2
   have hcw:=hc w.drew hW.row.drew
   have k0 : ∀ o,(w.alloc o).cell? ⟨b,0,none⟩=some v:=fun o=>(hW.blk.alloc o).cell 0 rfl
   have k1 : ∀ o,(w.alloc o).cell? ⟨b,1,none⟩=some (.int .u64 (rest L (L.length/8):Nat)):=fun o=>(hW.blk.alloc o).cell 1 rfl
   have hc1:=qC (P:=Tryz.prog) (w.alloc (.cells #[.int .u8 (rest L (L.length/8):Nat)] 5)).drew 75 9 5 Tryz.underlying75 Tryz.underlying5 Tryz.underlying9 (l:=[rest L (L.length/8)]) (Row.new w [.int .u8 (rest L (L.length/8):Nat)] 5 1 1 (by decide) rfl).drew
   have hcw2:=fun o=>hc (w.alloc o).drew (hW.row.alloc o).drew
   have hadd : ∀ W',(Op.stringOp .add (zd (jV L (L.length/8))) (zd [rest L (L.length/8)])).run Tryz.prog W' = .ok (.string (zd (jV L (L.length/8))++zd [rest L (L.length/8)])) W':=fun W' =>
    run_string_add_sum _ _ _ (by rw [zq,zq,hlo]; simp; omega)
   clear hc hW
   go_region
   all_goals go_wp2
   all_goals go_returns
   all_goals exact ⟨by rw [HP.out,← xN]; rfl,((Upd.refl _ _).alloc _).drew⟩
end Go.Proofs.YtfkcdnaghndgfaaGreatDoor
namespace Go.Proofs.YtfkcdnaghndgfaaGreatDoor
open Go.RowKit
theorem zbC:(Tryz.prog.info? 246).map (·.size)=some 16:=by kernel_rfl
def zeD (w:World) (l:List Int) (e:Ending) (w':World):Prop :=
 Upd [] w w'∧((yG l=true∧e = .returned (.tuple #[.agg (zf (cl (ze l))).toArray,.bool true])) ∨
  (yG l=false ∧ ∃ c,c.length=16∧e = .returned (.tuple #[.agg (zf c).toArray,.bool false])))
def zga (w:World) (l:List Int) (i:Nat) (wr:World):Prop:=yG (l.take i)=true∧Blk wr w.heap.size (zf (cl0 (ze (l.take i)))) 246∧Upd [] w wr
theorem Jf {w:World} {fn:Func} {p u:Tmp} {b:Nat} {cs:List Value} {tmps:Array Value} (h:fn.results = #[.cell p 246,.tmp u]) (hp:tmps.getD p undef = .pointer (some ⟨b,0,none⟩)) {t:TypeId} (hB:Blk w b cs t) (hl:cs.length=16) :
 (results fn tmps).run Tryz.prog w = .ok (.tuple #[.agg cs.toArray,tmps.getD u undef]) w:=by
 have hp':tmps[p]?.getD undef = .pointer (some ⟨b,0,none⟩):=by simpa using hp
 have hr:=run_loadVar_row (P:=Tryz.prog) w b t 246 cs.toArray (0,0) _ hB Tryz.underlying246 rfl (by rw [zbC]; simp [hl])
 simp [results,h,hp',asAddr,hr]
set_option maxRecDepth 100000 in
set_option maxHeartbeats 3200000 in
theorem JC (a:Option Addr) (len cap:Nat) (l:List Int) (w:World) (hlen:len≤9223372036854775807) (hI:IntsIn w a len l) :
 Calls Tryz.prog 206 #[.slice a len cap] w (zeD w l):=by
 have hll:=hI.len
 have HI:=Lib.hid hI
 clear hI
 subst hll
 by_cases hlong:300<l.length
 · have hnz:((l.length:Nat):Int)>300:=by omega
   have hok:=ZC hlong
   have HOK:=Lib.hid hok
   clear hok hlong
   go_enter Tryz.func206,Tryz.ntmps206
   have hB:=Blk.new w (zf (List.replicate 16 0)) 246
   go_wp2_with (first
    | (refine zr rfl 246 _ rfl w.heap.size rfl 246 (zf (List.replicate 16 0)) hB _ Tryz.underlying246 rfl (by kernel_rfl) ?_)
    | (refine zs rfl 246 _ _ rfl w.heap.size rfl (zf (List.replicate 16 0)) rfl 246 _ hB (by kernel_rfl) rfl (yZ _) ?_; intro w2 hB2 hU2))
   exact bodyPost_ret (Jf rfl rfl hB2 rfl) rfl ⟨((Upd.refl _ _).alloc _).trans hU2 (fun k hk=>by simp at hk; right; omega),.inr ⟨HOK.out,_,rfl,rfl⟩⟩
 · have hnz : ¬ ((l.length:Nat):Int)>300:=by omega
   go_enter Tryz.func206,Tryz.ntmps206
   go_wp2
   go_loopg [12] l.length (fun g s12 wr => ∃ i,i≤l.length∧g=l.length-i∧s12 = .int .i64 (i:Nat)∧zga w l i wr)
   case atStart=>exact ⟨0,by omega,rfl,rfl,kD (by simp) (by simp),Blk.new w (zf (List.replicate 16 0)) 246,(Upd.refl _ _).alloc _⟩
   case round =>
    obtain ⟨i,hin,rfl,rfl,hok,hB,hU⟩:=hrel
    by_cases hc:i<l.length
    · have hcz:(i:Int)<(l.length:Int):=by omega
      obtain ⟨b,off,rfl,c0,r1,r2⟩:=(HI.out.pure hU).cell i hc
      by_cases hb:0≤l[i]∧l[i]≤15
      · obtain ⟨hb0,hb15⟩:=hb
        have hok2:=Lib.hid (Zq hc hok (by omega) hb0 hb15)
        obtain ⟨k,hk⟩ : ∃ k:Nat,l[i]=(k:Int):=⟨l[i].toNat,by omega⟩
        have hn2:=Lib.hid (show ze (l.take (i+1))=ze (l.take i)++[k] by rw [take_snoc' l i hc]; simp [ze,hk])
        rw [hk] at c0 hb0 hb15
        have hcl:=Lib.hid (zgj (ze (l.take i)) k (by omega))
        have hcc:(ze (l.take i)).count k≤300:=Nat.le_trans List.count_le_length (by rw [zZ,List.length_take]; omega)
        have hk16:k<16:=by omega
        have d0:=hB.cell k (zt _ _ _ (JS (ze (l.take i)) k hk16))
        have f0:=hB.frz k
        clear hk r1 r2
        generalize (ze (l.take i)).count k=C at *
        go_wp2
        go_roundg (l.length-(i+1))
        case measure=>omega
        case rel =>
         refine ⟨i+1,by omega,rfl,by go_num,hok2.out,?_,hU.setCell (.inr (Nat.le_refl _)) _⟩
         rw [hn2.out,hcl.out,xc]
         exact hB.set k _
      · have hokF:=Lib.hid (Yc hc hb)
        have hlen0:(zf (cl0 (ze (l.take i)))).length=16:=by rw [zl,qh]
        have hlc:=qh (ze (l.take i))
        generalize cl0 (ze (l.take i))=c at *
        by_cases hb0:l[i]<0
        · generalize l[i]=x at *
          go_wp2_with (first
           | (refine zr rfl 246 _ rfl w.heap.size rfl 246 _ hB _ Tryz.underlying246 rfl (by rw [hlen0]; kernel_rfl) ?_)
           | (refine zs rfl 246 _ _ rfl w.heap.size rfl _ rfl 246 _ hB (by rw [hlen0]; kernel_rfl) rfl (yZ _) ?_; intro w2 hB2 hU2))
          exact bodyPost_ret (Jf rfl rfl hB2 hlen0) rfl ⟨hU.trans hU2 (fun k hk=>by simp at hk; right; omega),.inr ⟨hokF.out,_,hlc,rfl⟩⟩
        · have hb15:15<l[i]:=by omega
          generalize l[i]=x at *
          clear hb
          go_wp2_with (first
           | (refine zr rfl 246 _ rfl w.heap.size rfl 246 _ hB _ Tryz.underlying246 rfl (by rw [hlen0]; kernel_rfl) ?_)
           | (refine zs rfl 246 _ _ rfl w.heap.size rfl _ rfl 246 _ hB (by rw [hlen0]; kernel_rfl) rfl (yZ _) ?_; intro w2 hB2 hU2))
          exact bodyPost_ret (Jf rfl rfl hB2 hlen0) rfl ⟨hU.trans hU2 (fun k hk=>by simp at hk; right; omega),.inr ⟨hokF.out,_,hlc,rfl⟩⟩
    · have hcz : ¬ (i:Int)<(l.length:Int):=by omega
      have hi:i=l.length:=by omega
      rw [hi,List.take_length] at hok hB
      have hcl:=Lib.hid (zil (ze l))
      have d0:=hB.cell 0 (zt _ _ _ (JS (ze l) 0 (by omega)))
      have f0:=hB.frz 0
      have hB1:=hB.set 0 (.int .i64 0)
      have hB1':Blk (wr.setCell ⟨w.heap.size,0,none⟩ (.int .i64 0)) w.heap.size (zf (cl (ze l))) 246:=by
       rw [← hcl.out,xc]; exact hB1
      clear hB1 hi
      have hlen0:(zf (cl (ze l))).length=16:=by rw [zl,xy]
      generalize hgc:cl (ze l)=c at *
      have HGC:=Lib.hid hgc
      clear hgc
      go_wp2_with (first
       | (refine zr rfl 246 _ rfl w.heap.size rfl 246 _ hB1' _ Tryz.underlying246 rfl (by rw [hlen0]; kernel_rfl) ?_)
       | (refine zs rfl 246 _ _ rfl w.heap.size rfl _ rfl 246 _ hB1' (by rw [hlen0]; kernel_rfl) rfl (yZ _) ?_; intro w2 hB2 hU2))
      exact bodyPost_ret (Jf rfl rfl hB2 hlen0) rfl ⟨(hU.setCell (.inr (Nat.le_refl _)) _).trans hU2 (fun k hk=>by simp at hk; right; omega),.inl ⟨hok,by rw [HGC.out]; rfl⟩⟩
theorem zdV (p c k:Nat) (hp:p≤200000000) (hc:c≤300):wrap64 ((p:Int)+wrap64 ((c:Int)*2^(15-k)))=((p+c*2^(15-k):Nat):Int):=by
 have h1:2^(15-k)≤2^15:=Nat.pow_le_pow_right (by omega) (by omega)
 have h2:c*2^(15-k)≤300*2^15:=Nat.mul_le_mul hc h1
 have e:(2:Int)^(15-k)=((2^(15-k):Nat):Int):=by simp
 have h3:wrap64 ((c*2^(15-k):Nat):Int)=((c*2^(15-k):Nat):Int):=IntWalk.wrap64_in _ (by omega)
 rw [e,← Int.natCast_mul,h3,← Int.natCast_add]
 exact IntWalk.wrap64_in _ (by omega)
set_option maxRecDepth 100000 in
set_option maxHeartbeats 3200000 in
theorem kF (a:Option Addr) (len cap:Nat) (l:List Int) (w:World) (hlen:len≤9223372036854775807) (hI:IntsIn w a len l) :
 Calls Tryz.prog 181 #[.slice a len cap] w fun e w'=>e = .returned (.int .i64 (zg l:Nat))∧Upd [] w w':=by
 have HC:=Lib.hid (JC a len cap l w hlen hI)
 clear hI
 go_enter Tryz.func181,Tryz.ntmps181
 go_wp2_with fail
 refine HC.out.mono ?_
 rintro e w1 ⟨hU1,⟨hok,rfl⟩ | ⟨hok,c,hlc,rfl⟩⟩
 · have HOK:=Lib.hid hok
   clear hok
   have hlen0:(zf (cl (ze l))).length=16:=by rw [zl,xy]
   have hidx : ∀ i:Nat,i<16 → ∀ W,(Instr.index 246 (.agg (zf (cl (ze l))).toArray) (.int .i64 (i:Int))).run Tryz.prog W = .ok (.int .i64 (cnt (ze l) i:Nat)) W:=fun i hi W=>by
    rw [JL (P:=Tryz.prog) 246 3 16 Tryz.underlying246 .i64 Tryz.underlying3 (by kernel_rfl) (zf (cl (ze l))) hlen0 .i64 i hi]
    rw [List.getD,zt _ _ _ (Yu (ze l) i hi)]; rfl
   have HX:=Lib.hid hidx
   clear hidx
   have hpl:=Lib.hid (fun k hk=>zh0 (ze l) k hk (by rw [zZ]; exact (zy HOK.out).1))
   have hcl:=Lib.hid (fun k=>Nat.le_trans (zgZ (ze l) k) (by rw [zZ]; exact (zy HOK.out).1))
   have hkind:=Lib.hid (show zg l=jo (ze l) by unfold zg; rw [if_pos HOK.out])
   have hps:=Lib.hid (VL (ze l) (fun x hx=>by
    simp only [ze,List.mem_map] at hx
    obtain ⟨y,hy,rfl⟩:=hx
    have:=(zy HOK.out).2 y hy; omega))
   generalize ze l=n at *
   go_wp2_with (first
    | (refine zs rfl 246 _ _ rfl w1.heap.size rfl _ rfl 246 _ (Blk.new w1 (zf (List.replicate 16 0)) 246) (by kernel_rfl) hlen0 (yZ _) ?_; intro w2 hB2 hU2)
    | (refine zr rfl 246 _ rfl w1.heap.size rfl 246 _ hB2 _ Tryz.underlying246 rfl (by rw [hlen0]; kernel_rfl) ?_))
   have hU3:Upd [] w w2:=(hU1.alloc _).trans hU2 (fun k hk=>by simp at hk; right; have:=hU1.size; omega)
   go_loopg [5,16] 16 (fun g s5 s16 wr => ∃ k,k≤16∧g=16-k∧s16 = .int .i64 (k:Nat)∧s5 = .int .i64 (jf n k:Nat)∧w2=wr)
   case atStart=>exact ⟨0,by omega,rfl,rfl,rfl,rfl⟩
   case round =>
    obtain ⟨k,hk,rfl,rfl,rfl,rfl⟩:=hrel
    have hle:=hpl.out k hk
    by_cases hc:k<16
    · have hcz:(k:Int)<16:=by omega
      have hx:=HX.out k hc
      have hcle:=hcl.out k
      have hsn:=Lib.hid (show jf n (k+1)=jf n k+cnt n k*2^(15-k) by rfl)
      generalize jf n k=p at *
      generalize cnt n k=c at *
      go_wp2
      go_roundg (16-(k+1))
      case measure=>omega
      case rel =>
       refine ⟨k+1,by omega,rfl,by go_num,?_,rfl⟩
       rw [hsn.out,zdV _ _ _ (by omega) hcle]
    · have hk16:k=16:=by omega
      have hcz : ¬ (k:Int)<16:=by omega
      rw [hk16,hps.out] at hle ⊢
      have hkc:=Zs n
      clear hk16
      generalize yy n=s at *
      rcases hkc with ⟨h0,hkn⟩ | ⟨h0,h1,hkn⟩ | ⟨h0,hkn⟩ | ⟨h0,hkn⟩
      · have HK:=Lib.hid hkn
        have hs:(s:Int)=0:=by omega
        clear hkn
        go_wp2
        go_returns
        exact ⟨by rw [hkind.out,HK.out]; rfl,hU3⟩
      · have HK:=Lib.hid hkn
        have hs1:((s:Int)==0)=false:=by simp; omega
        have hs2:decide ((s:Int)<32768)=true:=by simp; omega
        clear hkn h0 h1 hle
        go_wp2
        go_returns
        exact ⟨by rw [hkind.out,HK.out]; rfl,hU3⟩
      · have HK:=Lib.hid hkn
        have hs:(s:Int)=32768:=by omega
        clear hkn
        go_wp2
        go_returns
        exact ⟨by rw [hkind.out,HK.out]; rfl,hU3⟩
      · have HK:=Lib.hid hkn
        have hs1:((s:Int)==0)=false:=by simp; omega
        have hs2:decide ((s:Int)<32768)=false:=by simp; omega
        have hs3:((s:Int)==32768)=false:=by simp; omega
        clear hkn h0 hle
        go_wp2
        go_returns
        exact ⟨by rw [hkind.out,HK.out]; rfl,hU3⟩
 · have hlen0:(zf c).length=16:=by rw [zl,hlc]
   have hkind:=Lib.hid (show zg l=3 by unfold zg; rw [if_neg (by rw [hok]; decide)])
   clear hok
   go_wp2_with (first
    | (refine zs rfl 246 _ _ rfl w1.heap.size rfl _ rfl 246 _ (Blk.new w1 (zf (List.replicate 16 0)) 246) (by kernel_rfl) hlen0 (yZ _) ?_; intro w2 hB2 hU2))
   go_returns
   exact ⟨by rw [hkind.out]; rfl,(hU1.alloc _).trans hU2 (fun k hk=>by simp at hk; right; have:=hU1.size; omega)⟩
end Go.Proofs.YtfkcdnaghndgfaaGreatDoor
namespace Go.Proofs.YtfkcdnaghndgfaaGreatDoor
open Go.RowKit
theorem zdj:(Tryz.prog.info? 22).map (fun i=>(i.zero,i.size,i.bytes))=some (some (.int .u32 0),1,4):=by kernel_rfl
end Go.Proofs.YtfkcdnaghndgfaaGreatDoor
namespace Go.Proofs.YtfkcdnaghndgfaaGreatDoor
open Go.RowKit
def qa (l:List Nat):List Value:=l.map fun x:Nat => .int .u32 (x:Int)
theorem ko (l:List Nat):(qa l).length=l.length:=by simp [qa]
theorem JN (l:List Nat) (i x:Nat):qa (l.set i x)=(qa l).set i (.int .u32 (x:Int)):=by simp [qa,List.map_set]
theorem vN (l:List Nat) (i x:Nat) (h:l[i]? =some x):(qa l)[i]? =some (.int .u32 (x:Int)):=by simp [qa,h]
theorem Wy (l:List Nat) : ∀ v∈qa l,v.oneCell'=true:=by
 intro v hv
 simp only [qa,List.mem_map] at hv
 obtain ⟨x,_,rfl⟩:=hv
 rfl
theorem zcE:(Tryz.prog.info? 257).map (·.size)=some 16:=by kernel_rfl
set_option maxRecDepth 100000 in
set_option maxHeartbeats 3200000 in
theorem zb2 (n:List Nat) (w:World) (hs:jf n 16≤32768) :
 Calls Tryz.prog 213 #[.agg (zf (cl n)).toArray] w fun e w'=>e = .returned (.agg (qa (fl n)).toArray)∧Upd [] w w':=by
 have hb:=fun k hk=>Ja n hs k hk
 have HB:=Lib.hid hb
 clear hb
 have hlen0:(zf (cl n)).length=16:=by rw [zl,xy]
 have hlen1:Hid ((qa (fl n)).length=16):=Lib.hid (by rw [ko,VE])
 go_enter Tryz.func213,Tryz.ntmps213
 go_wp2
 go_loopg [3] 15 (fun g s3 wr => ∃ j,j≤15∧g=15-j∧s3 = .int .i64 ((j+1:Nat):Int)∧Blk wr w.heap.size (zf (cl n)) 246∧Blk wr (w.heap.size+1) (qa (flp n (j+1))) 257∧Upd [] w wr)
 case atStart =>
  refine ⟨0,by omega,rfl,rfl,(Blk.new w _ _).alloc _,?_,((Upd.refl _ _).alloc _).alloc _⟩
  have h:=Blk.new (w.alloc (.cells (zf (cl n)).toArray 246)) (qa (flp n (0+1))) 257
  rw [World.size_alloc,zif] at h
  rw [zif]
  exact h
 case round =>
  obtain ⟨j,hj,rfl,rfl,hB1,hB2,hU⟩:=hrel
  by_cases hc:j<15
  · have hcz:(j:Int)+1≤15:=by omega
    have d1:=hB1.cell j (zt _ _ _ (Yu n j (by omega)))
    have d2:=hB2.cell j (vN _ _ _ (Kf n (j+1) j (by omega)))
    have d3:=hB2.cell (j+1) (vN _ _ _ (Kf n (j+1) (j+1) (by omega)))
    rw [if_pos (by omega)] at d2
    rw [if_neg (by omega)] at d3
    have f3:=hB2.frz (j+1)
    have hbd:=HB.out j (by omega)
    have hp15:2^j≤2^15:=Nat.pow_le_pow_right (by omega) (by omega)
    have hst:=Lib.hid (zh5 n (j+1))
    have hfs:=Lib.hid (show fst n (j+1)=2*(fst n j+cnt n j) by rfl)
    generalize fst n (j+1)=F1 at *
    generalize fst n j=F at *
    generalize cnt n j=C at *
    generalize 2^j=pj at *
    go_wp2
    have hj0:(0:Int)≤(j:Int):=by omega
    have e1:IntKind.i64.wrap (((j:Int)+1)-1)=(j:Int):=by rw [IntWalk.i64_in _ (by omega)]; omega
    go_region
    go_wp2
    go_roundg (15-(j+1))
    case measure=>omega
    case rel =>
     have hv:(((F:Int)+(C:Int))*2)=((F1:Nat):Int):=by have:=hfs.out; omega
     rw [hv]
     refine ⟨j+1,by omega,rfl,by go_num,(hB1.setFar _ (by simp)).drew,?_,(hU.setCell (.inr (by simp)) _).drew⟩
     rw [← hst.out,JN]
     exact (hB2.set (j+1) _).drew
  · have hj15:j=15:=by omega
    have hcz : ¬ (j:Int)+1≤15:=by omega
    rw [hj15,ziz] at hB2
    clear hj15
    go_wp2_with (first
     | (refine zr rfl 257 _ rfl (w.heap.size+1) rfl 257 _ hB2 _ Tryz.underlying257 rfl (by rw [hlen1.out]; kernel_rfl) ?_)
     | (refine zs rfl 257 _ _ rfl (w.heap.size+1) rfl _ rfl 257 _ hB2 (by rw [hlen1.out]; kernel_rfl) rfl (Wy _) ?_; intro w2 hB3 hU2))
    exact bodyPost_ret (results_cell_row rfl _ _ _ _ _ _ _ rfl hB3 Tryz.underlying257 rfl (by rw [zcE]; simp [hlen1.out])) rfl ⟨rfl,hU.trans hU2 (fun k hk=>by simp at hk; right; omega)⟩
def VJ (w:World) (l:List Int) (e:Ending) (w':World):Prop :=
 Upd [] w w'∧((zg l=3∧e = .returned (.slice none 0 0)) ∨
  (zg l≠3 ∧ ∃ g,e = .returned (.slice (some ⟨g,0,none⟩) l.length l.length)∧w.heap.size≤g∧Row w' 22 1 (.slice (some ⟨g,0,none⟩) l.length l.length) l.length (qa (jq (ze l)))))
def zaO (w:World) (n:List Nat) (bx g:Nat) (i:Nat) (wr:World):Prop :=
 Blk wr bx (qa (nx n i)) 257∧Row wr 22 1 (.slice (some ⟨g,0,none⟩) n.length n.length) n.length (qa (JO n i))∧Upd [] w wr
set_option maxRecDepth 100000 in
set_option maxHeartbeats 3200000 in
theorem zfk (a:Option Addr) (len cap:Nat) (l:List Int) (w:World) (hlen:len≤9223372036854775807) (hI:IntsIn w a len l) :
 Calls Tryz.prog 185 #[.slice a len cap] w (VJ w l):=by
 have hll:=hI.len
 have HI:=Lib.hid hI
 clear hI
 subst hll
 have HK:=Lib.hid (kF a l.length cap l w hlen HI.out)
 have HC:=Lib.hid (fun w1 (hU:Upd [] w w1)=>JC a l.length cap l w1 hlen (HI.out.pure hU))
 obtain ⟨i0,hi0,hz0,hz1,hz2⟩:=info_parts zdj
 by_cases hk3:zg l=3
 · have H3:=Lib.hid hk3
   rw [hk3] at HK
   clear hk3
   go_enter Tryz.func185,Tryz.ntmps185
   go_wp2_with fail
   refine HK.out.mono ?_
   rintro e w1 ⟨rfl,hU1⟩
   go_wp2
   go_returns
   exact ⟨hU1,.inl ⟨H3.out,rfl⟩⟩
 · obtain ⟨hok,hps⟩:=xz hk3
   have hkb:((zg l:Nat):Int)≠3:=by omega
   have H3:=Lib.hid hk3
   have HO:=Lib.hid hok
   generalize zg l=kk at HK hkb
   clear hk3
   go_enter Tryz.func185,Tryz.ntmps185
   go_wp2_with fail
   refine HK.out.mono ?_
   rintro e w1 ⟨rfl,hU1⟩
   go_wp2_with fail
   refine (HC.out w1 hU1).mono ?_
   rintro e w2 ⟨hU2,⟨_,rfl⟩ | ⟨hno,_⟩⟩
   case inr=>rw [hok] at hno; cases hno
   have hlen0:(zf (cl (ze l))).length=16:=by rw [zl,xy]
   have hlen1:(qa (fl (ze l))).length=16:=by rw [ko,VE]
   clear hok
   have hnl:=zZ l
   have h300:=(zy HO.out).1
   go_wp2_with (first
    | (refine zs rfl 246 _ _ rfl w2.heap.size rfl _ rfl 246 _ (Blk.new w2 (zf (List.replicate 16 0)) 246) (by kernel_rfl) hlen0 (yZ _) ?_; intro w3 hB3 hU3)
    | (refine zr rfl 246 _ rfl w2.heap.size rfl 246 _ hB3 _ Tryz.underlying246 rfl (by rw [hlen0]; kernel_rfl) ?_))
   refine (zb2 (ze l) _ hps).mono ?_
   rintro e w4 ⟨rfl,hU4⟩
   have hU34:Upd [] w w4:=(((hU1.then hU2).alloc _).trans hU3 (fun k hk=>by simp at hk; right; have:=(hU1.then hU2).size; omega)).then hU4
   clear hB3 hU3 hU4 hU2 hU1
   go_wp2_with (first
    | (refine zs rfl 257 _ _ rfl w4.heap.size rfl _ rfl 257 _ (Blk.new w4 (qa (List.replicate 16 0)) 257) (by kernel_rfl) hlen1 (Wy _) ?_; intro w5 hB5 hU5)
    | (refine kv _ rfl _ _ 161 rfl 22 i0 _ Tryz.underlying161 hi0 hz0 hz1 rfl .i64 .i64 _ _ l.length rfl rfl rfl rfl (by rw [hz2]; omega) (by unfold maxLen; omega) ?_; intro w6 hR6 hU6 hs6))
   have hU56:Upd [] w w6:=((hU34.alloc _).trans hU5 (fun k hk=>by simp at hk; right; have:=hU34.size; omega)).then hU6
   have hB6:=hB5.upd hU6 (by simp)
   have hg5:w4.heap.size<w5.heap.size:=hB5.lt
   have hwg:w.heap.size≤w5.heap.size:=by have:=hU34.size; omega
   have hwx:w.heap.size≤w4.heap.size:=hU34.size
   generalize w5.heap.size=g at *
   generalize w4.heap.size=bx at *
   clear hB5 hU5 hU6 hU34
   have hpb:=Lib.hid (fun k hk=>Ja (ze l) hps k hk)
   have hRel0:zaO w (ze l) bx g 0 w6:=by
    refine ⟨by rw [zjf]; exact hB6,?_,hU56⟩
    rw [ziJ,hnl]
    have e:qa (List.replicate l.length 0)=List.replicate l.length (.int .u32 0):=by simp [qa]
    rw [e]; exact hR6
   clear hB6 hR6 hU56 hs6 hps
   go_loopg [24] l.length (fun gg s24 wr => ∃ i,i≤l.length∧gg=l.length-i∧s24 = .int .i64 (i:Nat)∧zaO w (ze l) bx g i wr)
   case atStart=>exact ⟨0,by omega,rfl,rfl,hRel0⟩
   case round =>
    obtain ⟨i,hin,rfl,rfl,hB,hR,hU⟩:=hrel
    clear hRel0
    by_cases hc:i<l.length
    · have hcz:(i:Int)<(l.length:Int):=by omega
      obtain ⟨b,off,rfl,c0,r1,r2⟩:=(HI.out.pure hU).cell i hc
      have hkk:=(zy HO.out).2 _ (List.getElem_mem hc)
      obtain ⟨k,hk⟩ : ∃ k:Nat,l[i]=(k:Int):=⟨l[i].toNat,by omega⟩
      have hin':i<(ze l).length:=by omega
      have hnk:(ze l)[i]=k:=by simp [ze,hk]
      rw [hk] at c0 hkk
      have hk16:k<16:=by omega
      clear hk r1 r2
      by_cases hk0:k=0
      · subst hk0
        have h1:=Lib.hid (zhJ (ze l) i hin' hnk)
        have h2:=Lib.hid (ze5 (ze l) i hin' hnk)
        have c0':wr.cell? ⟨b,off+i,none⟩=some (.int .i64 0):=c0
        clear c0 hnk
        go_wp2
        go_roundg (l.length-(i+1))
        case measure=>omega
        case rel=>exact ⟨i+1,by omega,rfl,by go_num,by rw [h1.out]; exact hB,by rw [h2.out]; exact hR,hU⟩
      · have h1:=Lib.hid (ziw (ze l) i hin' (by omega))
        have h2:=Lib.hid (zfT (ze l) i)
        have h3:=XM (ze l) i hin' (by omega)
        rw [hnk] at h1 h3
        have hpos:(0:Int)<(k:Int):=by omega
        have hle:=hpb.out k (by omega)
        have hp15:2^k≤2^15:=Nat.pow_le_pow_right (by omega) (by omega)
        have hct:=Zp (ze l) i k
        have d1:=hB.cell k (vN _ _ _ (ziP (ze l) i k hk16))
        have f1:=hB.frz k
        obtain ⟨xo,hxo⟩ : ∃ x,(qa (JO (ze l) i))[i]? =some x:=⟨_,List.getElem?_eq_getElem (by rw [ko,Zw]; omega)⟩
        have d2:=Row.cell hR i hxo
        have f2:=Row.frz hR i
        have hne:bx≠g:=by omega
        rw [h3] at h2
        have H1:=Lib.hid h1
        have H2:=Lib.hid h2
        clear h1 h2 h3 hnk hxo
        have hq:fst (ze l) k+cnt ((ze l).take i) k≤32768:=by omega
        clear hle hct hp15
        generalize fst (ze l) k+cnt ((ze l).take i) k=q at *
        go_wp2
        go_roundg (l.length-(i+1))
        case measure=>omega
        case rel =>
         refine ⟨i+1,by omega,rfl,by go_num,?_,?_,(hU.setCell (.inr hwg) _).setCell (.inr hwx) _⟩
         · rw [← H1.out,JN]
           exact (hB.setFar _ hne).set k _
         · rw [← H2.out,JN,hnl]
           rw [hnl] at hR
           exact (hR.set i _).setFar _ (by simp [Value.ownBlock]; omega)
    · have hi:i=l.length:=by omega
      have hcz : ¬ (i:Int)<(l.length:Int):=by omega
      rw [hi,hnl] at hR
      have e:JO (ze l) l.length=jq (ze l):=by rw [← hnl]; exact zfZ _
      rw [e] at hR
      clear hi e
      go_wp2
      go_returns
      exact ⟨hU,.inr ⟨H3.out,g,rfl,hwg,hR⟩⟩
theorem zgE (X K i q:Nat) (hX:X<4294967296) (hq:q<4294967296) (hi:i<K) (hK:K≤32) :
 bits BinOp.or IntKind.u32 (q:Int) (bits BinOp.and IntKind.u32 ((X:Int)/2^i) 1*2^(K-1-i)%4294967296)=((q ||| X/2^i%2*2^(K-1-i):Nat):Int):=by
 have h0:X/2^i<4294967296:=Nat.lt_of_le_of_lt (Nat.div_le_self _ _) hX
 have e1:(X:Int)/2^i=((X/2^i:Nat):Int):=by simp
 have e2:(2:Int)^(K-1-i)=((2^(K-1-i):Nat):Int):=by simp
 have h1:bits BinOp.and IntKind.u32 ((X/2^i:Nat):Int) 1=((X/2^i%2:Nat):Int):=by
  have:=u32_and_nat (X/2^i) 1 h0 (by omega)
  rw [nat_mask1] at this
  exact this
 have h2:X/2^i%2<2:=Nat.mod_lt _ (by omega)
 have h3:2^(K-1-i)≤2^31:=Nat.pow_le_pow_right (by omega) (by omega)
 have h4:X/2^i%2*2^(K-1-i)≤1*2^31:=Nat.mul_le_mul (by omega) h3
 rw [e1,h1,e2,← Int.natCast_mul]
 have h5:((X/2^i%2*2^(K-1-i):Nat):Int)%4294967296=((X/2^i%2*2^(K-1-i):Nat):Int):=by omega
 rw [h5]
 exact u32_or_nat _ _ hq (by omega)
set_option maxRecDepth 100000 in
set_option maxHeartbeats 1600000 in
theorem zbZ (X K:Nat) (x k:Int) (w:World) (hx:x=(X:Nat)) (hX:X<4294967296) (hK32:K≤32) (hK:Hid ((K:Int)=max 0 (min k 32))) :
 Calls Tryz.prog 186 #[.int .u32 x,.int .i64 k] w fun e w'=>e = .returned (.int .u32 (xI X K:Nat))∧w=w':=by
 subst hx
 go_enter Tryz.func186,Tryz.ntmps186
 go_upto_region 1 with fail
 go_cut [1] (fun s1 wx=>s1 = .int .i64 (K:Nat)∧w=wx)
 case first =>
  go_wp2
  all_goals go_meet
  all_goals (refine ⟨?_,rfl⟩; first | (rw [hK.out]; done) | (rw [hK.out]; congr 1; omega))
 case rest =>
  obtain ⟨rfl,rfl⟩:=hcut
  have hK0:(0:Int)≤(K:Int):=by omega
  go_wp2
  go_loopg [4,10] K (fun g s4 s10 wx => ∃ i,i≤K∧g=K-i∧s10 = .int .i64 (i:Nat)∧s4 = .int .u32 ((xI X i*2^(K-i):Nat):Int)∧w=wx)
  case atStart=>exact ⟨0,by omega,rfl,rfl,by simp [xI],rfl⟩
  case round =>
   obtain ⟨i,hi,rfl,rfl,rfl,rfl⟩:=hrel
   by_cases hc:i<K
   · have hcz:(i:Int)<(K:Int):=by omega
     have hst:=Lib.hid (zd3 X K i hc)
     have hbd:=zb6 X K i hi hK32
     generalize xI X i*2^(K-i)=q at *
     go_wp2
     go_roundg (K-(i+1))
     case measure=>omega
     case rel =>
      refine ⟨i+1,by omega,rfl,by go_num,?_,rfl⟩
      rw [← hst.out,zgE X K i q hX hbd hc hK32]
   · have hiK:i=K:=by omega
     have hcz : ¬ (i:Int)<(K:Int):=by omega
     have e:xI X i*2^(K-i)=xI X K:=by rw [hiK]; simp
     rw [e]
     clear e
     go_wp2
     go_returns
     exact ⟨rfl,rfl⟩
end Go.Proofs.YtfkcdnaghndgfaaGreatDoor
