/- The walks of package bitio's Writer: Bits, Align, Text, Len, Bytes. -/
import Derived.Test.YtfkcdnaghndgfaaGreatDoorRows
import Derived.WalkKit
import Derived.StillTailTactics
import Derived.BigQuiet
import Derived.Deep.RegionHeld3
import Derived.Deep.RegionLaw
import Derived.Deep.DeepCutAuto
import Derived.Deep.DeepFit
import Derived.Deep.LoopGhost
import Derived.Deep.Light
import Derived.Test.YtfkcdnaghndgfaaGreatDoorQAA
import Derived.Test.YtfkcdnaghndgfaaGreatDoorQAB
import Derived.Handy
import Derived.Deep.CutBlock
import Derived.Test.YtfkcdnaghndgfaaGreatDoorQAC
set_option linter.unusedVariables false
set_option linter.unusedSimpArgs false
set_option linter.unusedSectionVars false
namespace Go.Proofs.YtfkcdnaghndgfaaGreatDoor
open Go.RowKit
theorem zb1:(Tryz.prog.info? 5).map (fun i=>(i.zero,i.size,i.bytes))=some (some (.int .u8 0),1,1):=by kernel_rfl
structure WrAt (w:World) (b:Nat) (v:Value) (L:List Bool) (m:Nat):Prop where
 blk:Blk w b [v,.int .u64 (rest L m:Nat),.int .i64 (L.length-8*m:Nat)] 118
 row:Row w 5 1 v m (u8s (xB L m))
 le:8*m≤L.length
 far:v.ownBlock≠some b
def ya (b:Nat) (v:Value):List Nat:=b::v.ownBlock.toList
theorem WrAt.upd {w w':World} {b:Nat} {v:Value} {L:List Bool} {m:Nat} {fp:List Nat} (h:WrAt w b v L m) (hu:Upd fp w w') (hb:b∉fp) (hv : ∀ k,v.ownBlock=some k→k∉fp):WrAt w' b v L m :=
 ⟨h.blk.upd hu hb,h.row.upd hu hv,h.le,h.far⟩
def ZT (w:World) (b:Nat) (v:Value) (L:List Bool) (e:Ending) (w':World):Prop :=
 e = .returned (.tuple #[]) ∧ ∃ v',WrAt w' b v' L (L.length/8)∧Upd (ya b v) w w'∧Later w v v'
def zcR (w:World) (b:Nat) (v:Value) (L:List Bool) (g:Nat) (wr:World):Prop :=
 ∃ m v',WrAt wr b v' L m∧g=L.length-8*m∧Upd (ya b v) w wr∧Later w v v'
theorem zca (p X K n:Nat) (hp:p<2^n) (hX:X<4294967296) (hK:K≤32) (hn:n≤7) :
 bits BinOp.or IntKind.u64 (p:Int) (IntKind.u64.wrap (bits BinOp.and IntKind.u64 (IntKind.u64.wrap (X:Int)) (IntKind.u64.wrap (IntKind.u64.wrap (2^K)-1))*2^n))=((p+2^n*(X%2^K):Nat):Int):=by
 have hn2:2^n≤2^7:=Nat.pow_le_pow_right (by omega) hn
 have hK2:2^K≤2^32:=Nat.pow_le_pow_right (by omega) hK
 have hK1:1≤2^K:=Nat.one_le_two_pow
 have h1:IntKind.u64.wrap (X:Int)=(X:Int):=IntWalk.u64_in _ (by omega)
 have e2:(2:Int)^K=((2^K:Nat):Int):=by simp
 have e3:(2:Int)^n=((2^n:Nat):Int):=by simp
 rw [h1,e2,e3]
 have h2:IntKind.u64.wrap ((2^K:Nat):Int)=((2^K:Nat):Int):=IntWalk.u64_in _ (by omega)
 have h3:IntKind.u64.wrap (((2^K:Nat):Int)-1)=((2^K-1:Nat):Int):=by rw [IntWalk.u64_in _ (by omega)]; omega
 have hs:X%2^K<2^K:=Nat.mod_lt _ (by omega)
 have hm:(X &&& (2^K-1))=X%2^K:=Nat.and_two_pow_sub_one_eq_mod X K
 have hb:X%2^K*2^n≤2^32*2^7:=Nat.mul_le_mul (by omega) hn2
 rw [h2,h3,u64_and_nat _ _ (by omega) (by omega),hm,← Int.natCast_mul,IntWalk.u64_in _ (by omega),u64_or_nat _ _ (by omega) (by omega),← hm,zh4 p X K n hp,hm]
theorem zcM {w0 w wa w1:World} {b g cap m N:Nat} {v v' x:Value} {L':List Bool} (hW':WrAt w b v' L' m) (hU:Upd (ya b v) w0 w) (hLt:Later w0 v v') (hc:8*(m+1)≤L'.length)
 (hwa:Upd [] w wa) (hgrow:wa.grownBy w1 v'.ownBlock) (hat:v'.ownBlock=some g∨g=N) (hN:w.heap.size≤N)
 (hown1:w1.ownsRow 0 5 1 (.slice (some ⟨g,0,none⟩) (m+1) cap) (m+1) (u8s (xB L' m)++[x])) (hx:x = .int .u8 (jy L' m:Nat)) :
 zcR w0 b v L' (L'.length-8*(m+1)) (((w1.setCell ⟨b,0,none⟩ (.slice (some ⟨g,0,none⟩) (m+1) cap)).setCell ⟨b,1,none⟩ (.int .u64 (((rest L' m:Nat):Int)/256))).setCell ⟨b,2,none⟩ (.int .i64 (((L'.length-8*m:Nat):Int)-8))):=by
 have hgb:(Value.slice (some ⟨g,0,none⟩) (m+1) cap).ownBlock≠some b:=by
  have hb:=hW'.blk.lt
  have hf:=hW'.far
  rcases hat with h | h
  · rw [h] at hf; exact hf
  · simp only [Value.ownBlock,ne_eq,Option.some.injEq]; omega
 have hBw:Blk w1 b _ _:=(hW'.blk.upd hwa (by simp)).grown hgrow hW'.far
 refine ⟨m+1,.slice (some ⟨g,0,none⟩) (m+1) cap,⟨?_,?_,hc,hgb⟩,rfl,?_,?_⟩
 · have h:=((hBw.set 0 (.slice (some ⟨g,0,none⟩) (m+1) cap)).set 1 (.int .u64 (((rest L' m:Nat):Int)/256))).set 2 (.int .i64 (((L'.length-8*m:Nat):Int)-8))
   have e1:(((rest L' m:Nat):Int)/256)=((rest L' (m+1):Nat):Int):=by rw [zfc _ _ hc]; simp
   have e2:(((L'.length-8*m:Nat):Int)-8)=((L'.length-8*(m+1):Nat):Int):=by omega
   rw [← e1,← e2]
   exact h
 · rw [Jl,zfQ,← hx]
   exact (((Row.of_owns hown1).setFar _ hgb).setFar _ hgb).setFar _ hgb
 · have hU1:Upd (ya b v) w0 w1:=(hU.then (hwa.mono (by simp))).grown hgrow (fun k hk=>by
    rcases hLt with h | ⟨j,h,hj⟩
    · exact .inl (by simp [ya,← h,hk])
    · rw [h] at hk; cases hk; exact .inr hj)
   exact ((hU1.setCell (.inl (by simp [ya])) _).setCell (.inl (by simp [ya])) _).setCell (.inl (by simp [ya])) _
 · rcases hat with h | h
   · rcases hLt with h' | ⟨j,h',hj⟩
     · exact .inl (by rw [← h',h]; rfl)
     · exact .inr ⟨j,by rw [← h',h]; rfl,hj⟩
   · exact .inr ⟨g,rfl,by have:=hU.size; omega⟩
set_option maxRecDepth 100000 in
set_option maxHeartbeats 3200000 in
theorem ym (b X:Nat) (x k:Int) (K:Nat) (w:World) (v:Value) (L:List Bool) (hx:x=(X:Nat)) (hX:X<4294967296) (hW:WrAt w b v L (L.length/8)) (hL:L.length≤1099511627776)
 (hK32:K≤32) (hK:Hid ((K:Int)=max 0 (min k 32))) :
 Calls Tryz.prog 120 #[.pointer (some ⟨b,0,none⟩),.int .u32 x,.int .i64 k] w (ZT w b v (L++low K X)):=by
 subst hx
 obtain ⟨i0,hi,hz0,hz1,hz2⟩:=info_parts zb1
 have hA:=hW.blk.all
 have fA:=hW.blk.frz
 have hle:=hW.le
 have hn7:L.length-8*(L.length/8)≤7:=by omega
 have hnn:(0:Int)≤((L.length-8*(L.length/8):Nat):Int):=by omega
 have hK0:(0:Int)≤(K:Int):=by omega
 have hst:=Lib.hid (zca (rest L (L.length/8)) X K (L.length-8*(L.length/8)) (zcW L _) hX hK32 hn7)
 have hre:rest L (L.length/8)+2^(L.length-8*(L.length/8))*(X%2^K)=rest (L++low K X) (L.length/8):=by rw [zah _ _ _ hle,Qm]
 rw [hre] at hst
 clear hre
 go_enter Tryz.func120,Tryz.ntmps120
 go_upto_region 1 with fail
 go_cut [2] (fun s2 wx=>s2 = .int .i64 (K:Nat)∧wx=w)
 case first =>
  go_wp2
  all_goals go_meet
  all_goals (refine ⟨?_,rfl⟩; first | (rw [hK.out]; done) | (rw [hK.out]; congr 1; omega))
 case rest =>
  obtain ⟨rfl,rfl⟩:=hcut
  go_upto_region 2 with fail
  go_still_tail 18,(by kernel_rfl)
  rw [hst.out]
  go_wp2
  have hLK:Hid ((L++low K X).length=L.length+K):=Lib.hid (by rw [List.length_append,ze])
  have hlo:Hid (xB (L++low K X) (L.length/8)=xB L (L.length/8)):=Lib.hid (vM _ _ _ hle)
  have hub':(L++low K X).length≤2000000000000:=by rw [List.length_append,ze]; omega
  generalize L++low K X=L' at *
  go_loopg [] (L'.length-8*(L.length/8)) (fun g wr=>zcR wc b v L' g wr)
  case atStart =>
   refine ⟨L.length/8,v,⟨?_,?_,by rw [hLK.out]; omega,hW.far⟩,rfl,?_,.refl _ _⟩
   · have h:=(hW.blk.set 1 (.int .u64 (rest L' (L.length/8):Nat))).set 2 (.int .i64 (((L.length-8*(L.length/8):Nat):Int)+(K:Int)))
     have e:(((L.length-8*(L.length/8):Nat):Int)+(K:Int))=((L'.length-8*(L.length/8):Nat):Int):=by
      rw [hLK.out]; omega
     rw [← e]
     exact h
   · rw [hlo.out]
     exact (((hW.row).setFar _ hW.far).setFar _ hW.far).drew
   · exact (((Upd.refl _ _).setCell (.inl (by simp [ya])) _).setCell (.inl (by simp [ya])) _).drew
  case round =>
   obtain ⟨m,v',hW',rfl,hU,hLt⟩:=hrel
   clear hA fA hst hnn hn7 hlo hLK
   have hA:=hW'.blk.all
   have fA:=hW'.blk.frz
   by_cases hc:8≤L'.length-8*m
   · have hcz:(8:Int)≤((L'.length-8*m:Nat):Int):=by omega
     have hub:((L'.length-8*m:Nat):Int)≤2000000000000:=by omega
     have hbw:=hW'.blk.lt
     have hfar:=hW'.far
     have hrow:=hW'.row
     have hmm:m≤2000000000000:=by omega
     go_wp2_with fail
     go_region_law ((refine step_append_lies _ (by rfl) _ _ _ (by rfl) 0 5 i0 _ 1 1 Tryz.underlying75 hi hz0 hz1 hz2 rfl (by omega) v' m _ (by rfl) (Row.alloc (Row.drew hrow) _) ⟨wr.heap.size,0,none⟩ 1 1 [_] (by rfl) (by rfl) (World.news_of_block (cs := #[_]) (t:=5) (fr:=(0,0)) (heap_alloc_new _ _)) (by simp [Value.oneCell']) (by omega) (by unfold maxLen; omega) (by omega) (by simp) (wr.heap.size+1) (by simp) ?_; intro g cap w1 hown1 hgrow hat hlt; have hBw:=(hW'.blk.drew.alloc _).grown hgrow hfar; have kA:=hBw.all; have e0:=hBw.frz 0; have e1:=hBw.frz 1; have e2:=hBw.frz 2))
     all_goals go_wp2
     all_goals go_roundg (L'.length-8*(m+1))
     all_goals first | omega | (refine zcM hW' hU hLt (by omega) (by first | exact ((Upd.refl _ _).drew.alloc _) | exact ((Upd.refl _ _).alloc _).drew) hgrow hat (by omega) hown1 ?_; rw [zbT _ _ (by omega),IntKind.wrap_u8]; simp)
   · have hcz:((L'.length-8*m:Nat):Int)<8:=by omega
     go_wp2
     go_end0
     have hm:m=L'.length/8:=by have:=hW'.le; omega
     exact ⟨rfl,v',hm▸hW',hU,hLt⟩
end Go.Proofs.YtfkcdnaghndgfaaGreatDoor
namespace Go.Proofs.YtfkcdnaghndgfaaGreatDoor
open Go.RowKit
set_option maxHeartbeats 800000 in
theorem Vi (b:Nat) (w:World) (v:Value) (L:List Bool) (hW:WrAt w b v L (L.length/8)) (hL:L.length≤1099511627776) :
 Calls Tryz.prog 149 #[.pointer (some ⟨b,0,none⟩)] w (ZT w b v (zO L)):=by
 have h2:=hW.blk.cell 2 rfl
 by_cases hz:L.length%8=0
 · have hn:L.length-8*(L.length/8)=0:=by omega
   rw [hn] at h2
   rw [Jb _ hz]
   clear hn
   go_enter Tryz.func149,Tryz.ntmps149
   go_wp2
   go_returns
   exact ⟨rfl,v,hW,.refl _ _,.refl _ _⟩
 · have hn1:(1:Int)≤((L.length-8*(L.length/8):Nat):Int):=by omega
   have hn7:((L.length-8*(L.length/8):Nat):Int)≤7:=by omega
   have hK:Hid (((8-(L.length-8*(L.length/8)):Nat):Int)=max 0 (min (8-((L.length-8*(L.length/8):Nat):Int)) 32)):=Lib.hid (by omega)
   have hc:=ym b 0 0 (8-((L.length-8*(L.length/8):Nat):Int)) (8-(L.length-8*(L.length/8))) w v L rfl (by omega) hW hL (by omega) hK
   have e:L++low (8-(L.length-8*(L.length/8))) 0=zO L:=by
    rw [zg8,zO]; congr 2; omega
   rw [e] at hc
   have HC:=Lib.hid hc
   clear hc e hK
   generalize L.length-8*(L.length/8)=r at *
   go_enter Tryz.func149,Tryz.ntmps149
   go_wp2_with fail
   refine HC.out.mono ?_
   rintro e w' ⟨rfl,hp⟩
   go_wp2
   go_returns
   exact ⟨rfl,hp⟩
set_option maxHeartbeats 1600000 in
theorem zgZ (b:Nat) (s:ByteArray) (w:World) (v:Value) (L:List Bool) (hW:WrAt w b v L (L.length/8)) (hL:L.length≤1099511627776) (hs:s.size≤1099511627776) :
 Calls Tryz.prog 150 #[.pointer (some ⟨b,0,none⟩),.string s] w (ZT w b v (zO L++zn (za s))):=by
 obtain ⟨i0,hi,hz0,hz1,hz2⟩:=info_parts zb1
 have HC:=Lib.hid (Vi b w v L hW hL)
 have hlen:Hid ((zO L).length=8*((zO L).length/8)):=Lib.hid (by rw [zT]; omega)
 have hle:(zO L).length≤1099511627790:=by rw [zT]; omega
 generalize zO L=L' at *
 go_enter Tryz.func150,Tryz.ntmps150
 go_wp2_with fail
 refine HC.out.mono ?_
 rintro e w1 ⟨rfl,v1,hW1,hU1,hT1⟩
 have h0:=hW1.blk.cell 0 rfl
 go_wp2_with (at_builtin; refine ZS _ rfl _ _ 75 9 rfl 5 i0 Tryz.underlying75 Tryz.underlying9 hi hz0 hz1 hz2 v1 _ _ rfl hW1.row s rfl (by unfold maxLen; omega) (by omega) ?_)
 intro v2 w2 hR2 hU2 hT2
 obtain ⟨a2,c2,rfl⟩:=hR2.form
 have hB2:=hW1.blk.upd hU2 (by have:=hW1.far; simpa using this)
 have f0:=hB2.frz 0
 have k0:=hB2.cell 0 rfl
 go_wp2
 go_returns
 have hm:(L'++zn (za s)).length/8=L'.length/8+s.size:=by
  rw [List.length_append,zK,zc]; have:=hlen.out; omega
 have hfar:=hT2.ne hW1.blk.lt hW1.far
 refine ⟨rfl,_,⟨?_,?_,by omega,hfar⟩,?_,hT1.trans hU1.size hT2⟩
 · have h:=hB2.set 0 (.slice a2 (L'.length/8+s.size) c2)
   rw [zaw _ _ (by have:=hlen.out; omega)] at h
   rw [zaw _ _ (by rw [hm,List.length_append,zK,zc]; have:=hlen.out; omega)]
   have e1:L'.length-8*(L'.length/8)=0:=by have:=hlen.out; omega
   have e2:(L'++zn (za s)).length-8*((L'++zn (za s)).length/8)=0:=by rw [hm,List.length_append,zK,zc]; have:=hlen.out; omega
   rw [e1] at h
   rw [e2]
   exact h
 · rw [hm]
   have e3:xB (L'++zn (za s)) (L'.length/8+s.size)=xB L' (L'.length/8)++za s:=by
    rw [← zc s]; exact Ka L' _ hlen.out _ (zP s)
   rw [e3,vl,← Zh]
   exact hR2.setFar _ hfar
 · refine (hU1.trans hU2 (fun k hk=>?_)).setCell (.inl (by simp [ya])) _
   exact (hT1.fp k hk).imp (fun h=>by simp [ya]; right; simpa using h) id
set_option maxHeartbeats 1600000 in
theorem zeY (b:Nat) (w:World) (v:Value) (L:List Bool) (hW:WrAt w b v L (L.length/8)) (hL:L.length≤1099511627776) :
 Calls Tryz.prog 79 #[.pointer (some ⟨b,0,none⟩)] w fun e w'=>e = .returned (.string (zd (pack L)))∧Upd [] w w':=by
 have h0:=hW.blk.cell 0 rfl
 have h1:=hW.blk.cell 1 rfl
 have h2:=hW.blk.cell 2 rfl
 have hc:=fun W' h=>jn (P:=Tryz.prog) W' 75 9 5 Tryz.underlying75 Tryz.underlying5 Tryz.underlying9 (v:=v) (n:=L.length/8) (l:=xB L (L.length/8)) h
 have hlo:=vR L (L.length/8)
 by_cases hz:L.length%8=0
 · have hn:L.length-8*(L.length/8)=0:=by omega
   have hp:pack L=xB L (L.length/8):=by unfold pack; congr 1; omega
   have HP:=Lib.hid hp
   have h2':w.cell? ⟨b,2,none⟩=some (.int .i64 0):=by rw [h2,hn]; rfl
   clear hp hn hz h2
   have hcw:=hc w hW.row
   clear hc
   go_enter Tryz.func79,Tryz.ntmps79
   go_wp2
   go_returns
   exact ⟨by rw [HP.out]; rfl,.refl _ _⟩
 · have hn1:(1:Int)≤((L.length-8*(L.length/8):Nat):Int):=by omega
   have hp:pack L=xB L (L.length/8)++[rest L (L.length/8)]:=by
    unfold pack
    rw [show (L.length+7)/8=L.length/8+1 by omega,Jl,zbZ _ _ (by omega)]
   have hr:rest L (L.length/8)<256:=Nat.lt_of_lt_of_le (zcW L _) (Nat.le_trans (Nat.pow_le_pow_right (by omega) (show L.length-8*(L.length/8)≤8 by omega)) (by decide))
   have HP:=Lib.hid hp
   clear hp hz
   go_enter Tryz.func79,Tryz.ntmps79
   go_wp2
   have hcw:=hc w.drew hW.row.drew
   have k0 : ∀ o,(w.alloc o).cell? ⟨b,0,none⟩=some v:=fun o=>(hW.blk.alloc o).cell 0 rfl
   have k1 : ∀ o,(w.alloc o).cell? ⟨b,1,none⟩=some (.int .u64 (rest L (L.length/8):Nat)):=fun o=>(hW.blk.alloc o).cell 1 rfl
   have hc1:=jn (P:=Tryz.prog) (w.alloc (.cells #[.int .u8 (rest L (L.length/8):Nat)] 5)).drew 75 9 5 Tryz.underlying75 Tryz.underlying5 Tryz.underlying9 (l:=[rest L (L.length/8)]) (Row.new w [.int .u8 (rest L (L.length/8):Nat)] 5 1 1 (by decide) rfl).drew
   have hcw2:=fun o=>hc (w.alloc o).drew (hW.row.alloc o).drew
   have hadd : ∀ W',(Op.stringOp .add (zd (xB L (L.length/8))) (zd [rest L (L.length/8)])).run Tryz.prog W' = .ok (.string (zd (xB L (L.length/8))++zd [rest L (L.length/8)])) W':=fun W' =>
    run_string_add_sum _ _ _ (by rw [zo,zo,hlo]; simp; omega)
   clear hc hW
   go_region
   all_goals go_wp2
   all_goals go_returns
   all_goals exact ⟨by rw [HP.out,← xD]; rfl,((Upd.refl _ _).alloc _).drew⟩
end Go.Proofs.YtfkcdnaghndgfaaGreatDoor
namespace Go.Proofs.YtfkcdnaghndgfaaGreatDoor
open Go.RowKit
theorem zb8:(Tryz.prog.info? 246).map (·.size)=some 16:=by kernel_rfl
def zey (w:World) (l:List Int) (e:Ending) (w':World):Prop :=
 Upd [] w w'∧((yE l=true∧e = .returned (.tuple #[.agg (zg (cl (zf l))).toArray,.bool true])) ∨
  (yE l=false ∧ ∃ c,c.length=16∧e = .returned (.tuple #[.agg (zg c).toArray,.bool false])))
def zfP (w:World) (l:List Int) (i:Nat) (wr:World):Prop:=yE (l.take i)=true∧Blk wr w.heap.size (zg (cl0 (zf (l.take i)))) 246∧Upd [] w wr
theorem Ji {w:World} {fn:Func} {p u:Tmp} {b:Nat} {cs:List Value} {tmps:Array Value} (h:fn.results = #[.cell p 246,.tmp u]) (hp:tmps.getD p undef = .pointer (some ⟨b,0,none⟩)) {t:TypeId} (hB:Blk w b cs t) (hl:cs.length=16) :
 (results fn tmps).run Tryz.prog w = .ok (.tuple #[.agg cs.toArray,tmps.getD u undef]) w:=by
 have hp':tmps[p]?.getD undef = .pointer (some ⟨b,0,none⟩):=by simpa using hp
 have hr:=run_loadVar_row (P:=Tryz.prog) w b t 246 cs.toArray (0,0) _ hB Tryz.underlying246 rfl (by rw [zb8]; simp [hl])
 simp [results,h,hp',asAddr,hr]
set_option maxRecDepth 100000 in
set_option maxHeartbeats 3200000 in
theorem Yx (a:Option Addr) (len cap:Nat) (l:List Int) (w:World) (hlen:len≤9223372036854775807) (hI:IntsIn w a len l) :
 Calls Tryz.prog 206 #[.slice a len cap] w (zey w l):=by
 have hll:=hI.len
 have HI:=Lib.hid hI
 clear hI
 subst hll
 by_cases hlong:300<l.length
 · have hnz:((l.length:Nat):Int)>300:=by omega
   have hok:=Zn hlong
   have HOK:=Lib.hid hok
   clear hok hlong
   go_enter Tryz.func206,Tryz.ntmps206
   have hB:=Blk.new w (zg (List.replicate 16 0)) 246
   go_wp2_with (first
    | (refine zA rfl 246 _ rfl w.heap.size rfl 246 (zg (List.replicate 16 0)) hB _ Tryz.underlying246 rfl (by kernel_rfl) ?_)
    | (refine zt rfl 246 _ _ rfl w.heap.size rfl (zg (List.replicate 16 0)) rfl 246 _ hB (by kernel_rfl) rfl (xi _) ?_; intro w2 hB2 hU2))
   exact bodyPost_ret (Ji rfl rfl hB2 rfl) rfl ⟨((Upd.refl _ _).alloc _).trans hU2 (fun k hk=>by simp at hk; right; omega),.inr ⟨HOK.out,_,rfl,rfl⟩⟩
 · have hnz : ¬ ((l.length:Nat):Int)>300:=by omega
   go_enter Tryz.func206,Tryz.ntmps206
   go_wp2
   go_loopg [12] l.length (fun g s12 wr => ∃ i,i≤l.length∧g=l.length-i∧s12 = .int .i64 (i:Nat)∧zfP w l i wr)
   case atStart=>exact ⟨0,by omega,rfl,rfl,kw (by simp) (by simp),Blk.new w (zg (List.replicate 16 0)) 246,(Upd.refl _ _).alloc _⟩
   case round =>
    obtain ⟨i,hin,rfl,rfl,hok,hB,hU⟩:=hrel
    by_cases hc:i<l.length
    · have hcz:(i:Int)<(l.length:Int):=by omega
      obtain ⟨b,off,rfl,c0,r1,r2⟩:=(HI.out.pure hU).cell i hc
      by_cases hb:0≤l[i]∧l[i]≤15
      · obtain ⟨hb0,hb15⟩:=hb
        have hok2:=Lib.hid (Zk hc hok (by omega) hb0 hb15)
        obtain ⟨k,hk⟩ : ∃ k:Nat,l[i]=(k:Int):=⟨l[i].toNat,by omega⟩
        have hn2:=Lib.hid (show zf (l.take (i+1))=zf (l.take i)++[k] by rw [take_snoc' l i hc]; simp [zf,hk])
        rw [hk] at c0 hb0 hb15
        have hcl:=Lib.hid (zg3 (zf (l.take i)) k (by omega))
        have hcc:(zf (l.take i)).count k≤300:=Nat.le_trans List.count_le_length (by rw [yQ,List.length_take]; omega)
        have hk16:k<16:=by omega
        have d0:=hB.cell k (zC _ _ _ (Qc (zf (l.take i)) k hk16))
        have f0:=hB.frz k
        clear hk r1 r2
        generalize (zf (l.take i)).count k=C at *
        go_wp2
        go_roundg (l.length-(i+1))
        case measure=>omega
        case rel =>
         refine ⟨i+1,by omega,rfl,by go_num,hok2.out,?_,hU.setCell (.inr (Nat.le_refl _)) _⟩
         rw [hn2.out,hcl.out,xh]
         exact hB.set k _
      · have hokF:=Lib.hid (Yg hc hb)
        have hlen0:(zg (cl0 (zf (l.take i)))).length=16:=by rw [zw,qb]
        have hlc:=qb (zf (l.take i))
        generalize cl0 (zf (l.take i))=c at *
        by_cases hb0:l[i]<0
        · generalize l[i]=x at *
          go_wp2_with (first
           | (refine zA rfl 246 _ rfl w.heap.size rfl 246 _ hB _ Tryz.underlying246 rfl (by rw [hlen0]; kernel_rfl) ?_)
           | (refine zt rfl 246 _ _ rfl w.heap.size rfl _ rfl 246 _ hB (by rw [hlen0]; kernel_rfl) rfl (xi _) ?_; intro w2 hB2 hU2))
          exact bodyPost_ret (Ji rfl rfl hB2 hlen0) rfl ⟨hU.trans hU2 (fun k hk=>by simp at hk; right; omega),.inr ⟨hokF.out,_,hlc,rfl⟩⟩
        · have hb15:15<l[i]:=by omega
          generalize l[i]=x at *
          clear hb
          go_wp2_with (first
           | (refine zA rfl 246 _ rfl w.heap.size rfl 246 _ hB _ Tryz.underlying246 rfl (by rw [hlen0]; kernel_rfl) ?_)
           | (refine zt rfl 246 _ _ rfl w.heap.size rfl _ rfl 246 _ hB (by rw [hlen0]; kernel_rfl) rfl (xi _) ?_; intro w2 hB2 hU2))
          exact bodyPost_ret (Ji rfl rfl hB2 hlen0) rfl ⟨hU.trans hU2 (fun k hk=>by simp at hk; right; omega),.inr ⟨hokF.out,_,hlc,rfl⟩⟩
    · have hcz : ¬ (i:Int)<(l.length:Int):=by omega
      have hi:i=l.length:=by omega
      rw [hi,List.take_length] at hok hB
      have hcl:=Lib.hid (ziT (zf l))
      have d0:=hB.cell 0 (zC _ _ _ (Qc (zf l) 0 (by omega)))
      have f0:=hB.frz 0
      have hB1:=hB.set 0 (.int .i64 0)
      have hB1':Blk (wr.setCell ⟨w.heap.size,0,none⟩ (.int .i64 0)) w.heap.size (zg (cl (zf l))) 246:=by
       rw [← hcl.out,xh]; exact hB1
      clear hB1 hi
      have hlen0:(zg (cl (zf l))).length=16:=by rw [zw,kF]
      generalize hgc:cl (zf l)=c at *
      have HGC:=Lib.hid hgc
      clear hgc
      go_wp2_with (first
       | (refine zA rfl 246 _ rfl w.heap.size rfl 246 _ hB1' _ Tryz.underlying246 rfl (by rw [hlen0]; kernel_rfl) ?_)
       | (refine zt rfl 246 _ _ rfl w.heap.size rfl _ rfl 246 _ hB1' (by rw [hlen0]; kernel_rfl) rfl (xi _) ?_; intro w2 hB2 hU2))
      exact bodyPost_ret (Ji rfl rfl hB2 hlen0) rfl ⟨(hU.setCell (.inr (Nat.le_refl _)) _).trans hU2 (fun k hk=>by simp at hk; right; omega),.inl ⟨hok,by rw [HGC.out]; rfl⟩⟩
theorem zew (p c k:Nat) (hp:p≤200000000) (hc:c≤300):wrap64 ((p:Int)+wrap64 ((c:Int)*2^(15-k)))=((p+c*2^(15-k):Nat):Int):=by
 have h1:2^(15-k)≤2^15:=Nat.pow_le_pow_right (by omega) (by omega)
 have h2:c*2^(15-k)≤300*2^15:=Nat.mul_le_mul hc h1
 have e:(2:Int)^(15-k)=((2^(15-k):Nat):Int):=by simp
 have h3:wrap64 ((c*2^(15-k):Nat):Int)=((c*2^(15-k):Nat):Int):=IntWalk.wrap64_in _ (by omega)
 rw [e,← Int.natCast_mul,h3,← Int.natCast_add]
 exact IntWalk.wrap64_in _ (by omega)
set_option maxRecDepth 100000 in
set_option maxHeartbeats 3200000 in
theorem zfD (a:Option Addr) (len cap:Nat) (l:List Int) (w:World) (hlen:len≤9223372036854775807) (hI:IntsIn w a len l) :
 Calls Tryz.prog 181 #[.slice a len cap] w fun e w'=>e = .returned (.int .i64 (zi l:Nat))∧Upd [] w w':=by
 have HC:=Lib.hid (Yx a len cap l w hlen hI)
 clear hI
 go_enter Tryz.func181,Tryz.ntmps181
 go_wp2_with fail
 refine HC.out.mono ?_
 rintro e w1 ⟨hU1,⟨hok,rfl⟩ | ⟨hok,c,hlc,rfl⟩⟩
 · have HOK:=Lib.hid hok
   clear hok
   have hlen0:(zg (cl (zf l))).length=16:=by rw [zw,kF]
   have hidx : ∀ i:Nat,i<16 → ∀ W,(Instr.index 246 (.agg (zg (cl (zf l))).toArray) (.int .i64 (i:Int))).run Tryz.prog W = .ok (.int .i64 (cnt (zf l) i:Nat)) W:=fun i hi W=>by
    rw [JT (P:=Tryz.prog) 246 3 16 Tryz.underlying246 .i64 Tryz.underlying3 (by kernel_rfl) (zg (cl (zf l))) hlen0 .i64 i hi]
    rw [List.getD,zC _ _ _ (zcp (zf l) i hi)]; rfl
   have HX:=Lib.hid hidx
   clear hidx
   have hpl:=Lib.hid (fun k hk=>ziw (zf l) k hk (by rw [yQ]; exact (zH HOK.out).1))
   have hcl:=Lib.hid (fun k=>Nat.le_trans (zfN (zf l) k) (by rw [yQ]; exact (zH HOK.out).1))
   have hkind:=Lib.hid (show zi l=jb (zf l) by unfold zi; rw [if_pos HOK.out])
   have hps:=Lib.hid (YV (zf l) (fun x hx=>by
    simp only [zf,List.mem_map] at hx
    obtain ⟨y,hy,rfl⟩:=hx
    have:=(zH HOK.out).2 y hy; omega))
   generalize zf l=n at *
   go_wp2_with (first
    | (refine zt rfl 246 _ _ rfl w1.heap.size rfl _ rfl 246 _ (Blk.new w1 (zg (List.replicate 16 0)) 246) (by kernel_rfl) hlen0 (xi _) ?_; intro w2 hB2 hU2)
    | (refine zA rfl 246 _ rfl w1.heap.size rfl 246 _ hB2 _ Tryz.underlying246 rfl (by rw [hlen0]; kernel_rfl) ?_))
   have hU3:Upd [] w w2:=(hU1.alloc _).trans hU2 (fun k hk=>by simp at hk; right; have:=hU1.size; omega)
   go_loopg [5,16] 16 (fun g s5 s16 wr => ∃ k,k≤16∧g=16-k∧s16 = .int .i64 (k:Nat)∧s5 = .int .i64 (qO n k:Nat)∧w2=wr)
   case atStart=>exact ⟨0,by omega,rfl,rfl,rfl,rfl⟩
   case round =>
    obtain ⟨k,hk,rfl,rfl,rfl,rfl⟩:=hrel
    have hle:=hpl.out k hk
    by_cases hc:k<16
    · have hcz:(k:Int)<16:=by omega
      have hx:=HX.out k hc
      have hcle:=hcl.out k
      have hsn:=Lib.hid (show qO n (k+1)=qO n k+cnt n k*2^(15-k) by rfl)
      generalize qO n k=p at *
      generalize cnt n k=c at *
      go_wp2
      go_roundg (16-(k+1))
      case measure=>omega
      case rel =>
       refine ⟨k+1,by omega,rfl,by go_num,?_,rfl⟩
       rw [hsn.out,zew _ _ _ (by omega) hcle]
    · have hk16:k=16:=by omega
      have hcz : ¬ (k:Int)<16:=by omega
      rw [hk16,hps.out] at hle ⊢
      have hkc:=Zq n
      clear hk16
      generalize yy n=s at *
      rcases hkc with ⟨h0,hkn⟩ | ⟨h0,h1,hkn⟩ | ⟨h0,hkn⟩ | ⟨h0,hkn⟩
      · have HK:=Lib.hid hkn
        have hs:(s:Int)=0:=by omega
        clear hkn
        go_wp2
        go_returns
        exact ⟨by rw [hkind.out,HK.out]; rfl,hU3⟩
      · have HK:=Lib.hid hkn
        have hs1:((s:Int)==0)=false:=by simp; omega
        have hs2:decide ((s:Int)<32768)=true:=by simp; omega
        clear hkn h0 h1 hle
        go_wp2
        go_returns
        exact ⟨by rw [hkind.out,HK.out]; rfl,hU3⟩
      · have HK:=Lib.hid hkn
        have hs:(s:Int)=32768:=by omega
        clear hkn
        go_wp2
        go_returns
        exact ⟨by rw [hkind.out,HK.out]; rfl,hU3⟩
      · have HK:=Lib.hid hkn
        have hs1:((s:Int)==0)=false:=by simp; omega
        have hs2:decide ((s:Int)<32768)=false:=by simp; omega
        have hs3:((s:Int)==32768)=false:=by simp; omega
        clear hkn h0 hle
        go_wp2
        go_returns
        exact ⟨by rw [hkind.out,HK.out]; rfl,hU3⟩
 · have hlen0:(zg c).length=16:=by rw [zw,hlc]
   have hkind:=Lib.hid (show zi l=3 by unfold zi; rw [if_neg (by rw [hok]; decide)])
   clear hok
   go_wp2_with (first
    | (refine zt rfl 246 _ _ rfl w1.heap.size rfl _ rfl 246 _ (Blk.new w1 (zg (List.replicate 16 0)) 246) (by kernel_rfl) hlen0 (xi _) ?_; intro w2 hB2 hU2))
   go_returns
   exact ⟨by rw [hkind.out]; rfl,(hU1.alloc _).trans hU2 (fun k hk=>by simp at hk; right; have:=hU1.size; omega)⟩
end Go.Proofs.YtfkcdnaghndgfaaGreatDoor
namespace Go.Proofs.YtfkcdnaghndgfaaGreatDoor
open Go.RowKit
theorem zc7:(Tryz.prog.info? 22).map (fun i=>(i.zero,i.size,i.bytes))=some (some (.int .u32 0),1,4):=by kernel_rfl
end Go.Proofs.YtfkcdnaghndgfaaGreatDoor
