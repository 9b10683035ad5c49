/- The walk of swingleref04.Kind. -/
import Derived.Test.YtigjingielnaoaaGreatDoorQAO
import Derived.Test.YtigjingielnaoaaGreatDoorRows
import Derived.WalkKit
import Derived.StillTailTactics
import Derived.BigQuiet
import Derived.Deep.RegionHeld3
import Derived.Deep.RegionLaw
import Derived.Deep.DeepCutAuto
import Derived.Deep.DeepFit
import Derived.Deep.LoopGhost
import Derived.Deep.Light
import Derived.Test.YtigjingielnaoaaGreatDoorQAA
import Derived.Test.YtigjingielnaoaaGreatDoorQAN
import Derived.Deep.CutBlock
import Derived.Handy
import Derived.Test.YtigjingielnaoaaGreatDoorQAC
set_option linter.unusedVariables false
set_option linter.unusedSimpArgs false
set_option linter.unusedSectionVars false
namespace Go.Proofs.YtigjingielnaoaaGreatDoor
open Go.RowKit
theorem Jt (n:List Nat):(xA n=0∧kN n=0)∨(0<xA n∧xA n<32768∧kN n=2)∨(xA n=32768∧kN n=1)∨(32768<xA n∧kN n=3):=by
 unfold kN
 by_cases h1:xA n=0
 · simp [h1]
 · by_cases h2:xA n<32768
   · simp [h1,h2]; omega
   · by_cases h3:xA n=32768
     · simp [h3]
     · simp [h1,h2,h3]; omega
set_option maxRecDepth 100000 in
set_option maxHeartbeats 3200000 in
theorem jB (a:Option Addr) (len cap:Nat) (l:List Int) (w:World) (hlen:len≤9223372036854775807) (hI:IntsIn w a len l) :
 Calls Tryz.prog 212 #[.slice a len cap] w fun e w'=>e = .returned (.int .i64 (zn l:Nat))∧w=w':=by
 have hll:=hI.len
 have HI:=Lib.hid hI
 clear hI
 subst hll
 by_cases hlong:300<l.length
 · have hnz:((l.length:Nat):Int)>300:=by omega
   have hk:=Lib.hid (show zn l=3 by unfold zn; rw [if_neg (by rw [Jv hlong]; decide)])
   clear hlong
   go_enter Tryz.func212,Tryz.ntmps212
   go_wp2
   go_returns
   exact ⟨by rw [hk.out]; rfl,rfl⟩
 · have hnz : ¬ ((l.length:Nat):Int)>300:=by omega
   go_enter Tryz.func212,Tryz.ntmps212
   go_wp2
   go_loopg [3,13] l.length (fun g s3 s13 wr => ∃ i,i≤l.length∧g=l.length-i∧s13 = .int .i64 (i:Nat)∧s3 = .int .i64 (xA (zi (l.take i)):Nat)∧xl (l.take i)=true∧w=wr)
   case atStart=>exact ⟨0,by omega,rfl,rfl,rfl,kZ (by simp) (by simp),rfl⟩
   case round =>
    obtain ⟨i,hin,rfl,rfl,rfl,hok,rfl⟩:=hrel
    have hle:xA (zi (l.take i))≤300*32768:=zd6 _ (by rw [yD,List.length_take]; omega)
    by_cases hc:i<l.length
    · have hcz:(i:Int)<(l.length:Int):=by omega
      obtain ⟨b,off,rfl,c0,r1,r2⟩:=HI.out.cell i hc
      by_cases hb:0≤l[i]∧l[i]≤15
      · obtain ⟨hb0,hb15⟩:=hb
        have hok2:=Lib.hid (JK hc hok (by omega) hb0 hb15)
        obtain ⟨k,hk⟩ : ∃ k:Nat,l[i]=(k:Int):=⟨l[i].toNat,by omega⟩
        have hn2:=Lib.hid (show xA (zi (l.take (i+1)))=xA (zi (l.take i))+wt k by rw [take_snoc' l i hc,← Xy]; simp [zi,hk])
        rw [hk] at c0 hb0 hb15
        clear hk r1 r2 hok
        generalize xA (zi (l.take i))=s at *
        go_wp2
        go_loopg [6,7] k (fun g s6 s7 wx => ∃ j,j≤k∧g=k-j∧s7 = .int .i64 (j:Nat)∧s6 = .int .i64 ((2^(15-j):Nat):Int)∧w=wx)
        case atStart=>exact ⟨0,by omega,rfl,rfl,rfl,rfl⟩
        case round =>
         obtain ⟨j,hj,rfl,rfl,rfl,rfl⟩:=hrel
         have hp:2^(15-j)≤2^15:=Nat.pow_le_pow_right (by omega) (by omega)
         by_cases hjk:j<k
         · have hjz:(j:Int)<(k:Int):=by omega
           have hpp:=Lib.hid (show 2^(15-j)/2=2^(15-(j+1)) by rw [show 15-j=(15-(j+1))+1 by omega,Nat.pow_succ,Nat.mul_div_cancel _ (by omega)])
           generalize 2^(15-j)=p at *
           go_wp2
           go_roundg (k-(j+1))
           case measure=>omega
           case rel=>exact ⟨j+1,by omega,rfl,by go_num,by rw [← hpp.out]; simp,rfl⟩
         · have hjz : ¬ (j:Int)<(k:Int):=by omega
           have hjk':j=k:=by omega
           by_cases hk0:k=0
           · have hkz : ¬ (0:Int)<(k:Int):=by omega
             have hw0:=Lib.hid (show wt k=0 by unfold wt; rw [if_pos hk0])
             clear hk0 hjk'
             generalize 2^(15-j)=p at *
             go_wp2
             go_roundg (l.length-(i+1))
             case measure=>omega
             case rel=>exact ⟨i+1,by omega,rfl,by go_num,by rw [hn2.out,hw0.out]; rfl,hok2.out,rfl⟩
           · have hkz:(0:Int)<(k:Int):=by omega
             have hw0:=Lib.hid (show wt k=2^(15-j) by unfold wt; rw [if_neg hk0,hjk'])
             clear hk0 hjk'
             generalize 2^(15-j)=p at *
             go_wp2
             go_roundg (l.length-(i+1))
             case measure=>omega
             case rel=>exact ⟨i+1,by omega,rfl,by go_num,by rw [hn2.out,hw0.out]; simp,hok2.out,rfl⟩
      · have hk:=Lib.hid (show zn l=3 by unfold zn; rw [if_neg (by rw [Za hc hb]; decide)])
        generalize xA (zi (l.take i))=s at *
        by_cases hb0:l[i]<0
        · generalize l[i]=x at *
          clear hb
          go_wp2
          go_returns
          exact ⟨by rw [hk.out]; rfl,rfl⟩
        · have hb15:15<l[i]:=by omega
          generalize l[i]=x at *
          clear hb
          go_wp2
          go_returns
          exact ⟨by rw [hk.out]; rfl,rfl⟩
    · have hcz : ¬ (i:Int)<(l.length:Int):=by omega
      have hi:i=l.length:=by omega
      rw [hi,List.take_length] at hok hle
      have e:xA (zi (l.take i))=xA (zi l):=by rw [hi,List.take_length]
      rw [e]
      have hkind:=Lib.hid (show zn l=kN (zi l) by unfold zn; rw [if_pos hok])
      have hkc:=Jt (zi l)
      clear hi e hle
      generalize xA (zi l)=s at *
      rcases hkc with ⟨h0,hkn⟩ | ⟨h0,h1,hkn⟩ | ⟨h0,hkn⟩ | ⟨h0,hkn⟩
      · have HK:=Lib.hid hkn
        have hs:(s:Int)=0:=by omega
        clear hkn
        go_wp2
        go_returns
        exact ⟨by rw [hkind.out,HK.out]; rfl,rfl⟩
      · have HK:=Lib.hid hkn
        have hs1:((s:Int)==0)=false:=by simp; omega
        have hs3:((s:Int)==32768)=false:=by simp; omega
        have hs2:decide ((s:Int)<32768)=true:=by simp; omega
        clear hkn h0 h1
        go_wp2
        go_returns
        exact ⟨by rw [hkind.out,HK.out]; rfl,rfl⟩
      · have HK:=Lib.hid hkn
        have hs:(s:Int)=32768:=by omega
        clear hkn
        go_wp2
        go_returns
        exact ⟨by rw [hkind.out,HK.out]; rfl,rfl⟩
      · have HK:=Lib.hid hkn
        have hs1:((s:Int)==0)=false:=by simp; omega
        have hs3:((s:Int)==32768)=false:=by simp; omega
        have hs2:decide ((s:Int)<32768)=false:=by simp; omega
        clear hkn h0
        go_wp2
        go_returns
        exact ⟨by rw [hkind.out,HK.out]; rfl,rfl⟩
end Go.Proofs.YtigjingielnaoaaGreatDoor
namespace Go.Proofs.YtigjingielnaoaaGreatDoor
open Go.RowKit
def jb (l:List Int):Nat:=l.countP fun k=>decide (0<k)
def vX (l:List Int):Nat:=l.countP fun k=>decide (k=1)
def yI (l:List Int):Bool:=decide (zn l=1)||(decide (jb l=1)&&decide (vX l=1))
theorem Zf {l:List Int} {i:Nat} (h:i<l.length):jb (l.take (i+1))=jb (l.take i)+if 0<l[i] then 1 else 0:=by
 unfold jb; rw [take_snoc' l i h,List.countP_append]; simp [List.countP_cons]
theorem zbU {l:List Int} {i:Nat} (h:i<l.length):vX (l.take (i+1))=vX (l.take i)+if l[i]=1 then 1 else 0:=by
 unfold vX; rw [take_snoc' l i h,List.countP_append]; simp [List.countP_cons]
theorem Zk (l:List Int):jb l≤l.length:=List.countP_le_length
theorem zec (l:List Int):vX l≤l.length:=List.countP_le_length
def jr (l:List Int):Int:=(l.filter fun k=>decide (0<k)).getLastD 0
theorem YF {l:List Int} {i:Nat} (h:i<l.length):jr (l.take (i+1))=if 0<l[i] then l[i] else jr (l.take i):=by
 unfold jr
 rw [take_snoc' l i h,List.filter_append]
 by_cases hp:0<l[i]
 · rw [if_pos hp,List.filter_cons_of_pos (by simpa using hp),List.filter_nil,List.getLastD_eq_getLast?]
   simp
 · rw [if_neg hp,List.filter_cons_of_neg (by simpa using hp),List.filter_nil,List.append_nil]
theorem Kv (l:List Int):yI l=(decide (zn l=1)||(decide (jb l=1)&&decide (jr l=1))):=by
 unfold yI
 by_cases hu:jb l=1
 · have hf:(l.filter fun k=>decide (0<k)).length=1:=by rw [← List.countP_eq_length_filter]; exact hu
   obtain ⟨x,hx⟩:=List.length_eq_one_iff.1 hf
   have hone:vX l=if x=1 then 1 else 0:=by
    have e:vX l=(l.filter fun k=>decide (0<k)).countP fun k=>decide (k=1):=by
     unfold vX
     rw [List.countP_filter]
     congr 1
     funext k
     by_cases h:k=1
     · simp [h]
     · simp [h]
    rw [e,hx]
    by_cases h:x=1<;>simp [h]
   have hl:jr l=x:=by unfold jr; rw [hx]; rfl
   rw [hl,hone]
   by_cases h:x=1<;>simp [h]
 · simp [hu]
set_option maxRecDepth 100000 in
set_option maxHeartbeats 1600000 in
theorem vK (x:Option Addr) (cap:Nat) (l:List Int) (w:World) (hlen:l.length≤100000) (hI:IntsIn w x l.length l) :
 Calls Tryz.prog 215 #[.slice x l.length cap] w fun e w'=>e = .returned (.bool (yI l))∧w=w':=by
 have HK:=Lib.hid (jB x l.length cap l w (by omega) hI)
 have HI:=Lib.hid hI
 clear hI
 go_enter Tryz.func215,Tryz.ntmps215
 go_wp2
 go_loopg [3,4,9] l.length (fun g s3 s4 s9 wr => ∃ i,i≤l.length∧g=l.length-i∧s9 = .int .i64 (i:Nat)∧s3 = .int .i64 (jb (l.take i):Nat)∧s4 = .int .i64 (jr (l.take i))∧w=wr)
 case atStart=>exact ⟨0,by omega,rfl,rfl,rfl,rfl,rfl⟩
 case round =>
  obtain ⟨i,hi,rfl,rfl,rfl,rfl,rfl⟩:=hrel
  by_cases hc:i<l.length
  · have hcz:(i:Int)<(l.length:Int):=by omega
    obtain ⟨b,off,rfl,c,hb1,hb2⟩:=HI.out.cell i hc
    have hu:=Zf hc
    have hl:=YF hc
    have hul:=Zk (l.take i)
    rw [List.length_take] at hul
    have HU:=Lib.hid hu
    have HL:=Lib.hid hl
    clear hu hl
    generalize l[i]=y at *
    by_cases hy:0<y
    · have t1:decide (0<y)=true:=decide_eq_true hy
      go_wp2
      go_roundg (l.length-(i+1))
      case measure=>omega
      case rel =>
       refine ⟨i+1,by omega,rfl,by first | rfl | go_num,?_,?_,rfl⟩
       · rw [HU.out,if_pos hy]; first | rfl | go_num
       · rw [HL.out,if_pos hy]
    · have t1:decide (0<y)=false:=decide_eq_false hy
      go_wp2
      go_roundg (l.length-(i+1))
      case measure=>omega
      case rel =>
       refine ⟨i+1,by omega,rfl,by first | rfl | go_num,?_,?_,rfl⟩
       · rw [HU.out,if_neg (by omega)]; first | rfl | go_num
       · rw [HL.out,if_neg (by omega)]
  · have hcz : ¬ (i:Int)<(l.length:Int):=by omega
    have hil:i=l.length:=by omega
    subst hil
    rw [List.take_length]
    have hok:=Lib.hid (Kv l)
    have hul:=Zk l
    generalize jb l=u at *
    generalize jr l=y at *
    generalize zn l=kk at *
    by_cases h1:kk=1
    · have t1:((kk:Int)==1)=true:=by rw [h1]; rfl
      go_wp2_with fail
      refine HK.out.mono ?_
      rintro e w2 ⟨rfl,rfl⟩
      go_wp2
      go_returns
      exact ⟨by rw [hok.out]; simp [h1],rfl⟩
    · have t1:((kk:Int)==1)=false:=by simp; omega
      by_cases h2:u=1
      · have t2:((u:Int)==1)=true:=by rw [h2]; rfl
        by_cases h3:y=1
        · have t3:(y==1)=true:=by rw [h3]; rfl
          go_wp2_with fail
          refine HK.out.mono ?_
          rintro e w2 ⟨rfl,rfl⟩
          go_wp2
          go_returns
          exact ⟨by rw [hok.out]; simp [h2,h3],rfl⟩
        · have t3:(y==1)=false:=by simp [h3]
          go_wp2_with fail
          refine HK.out.mono ?_
          rintro e w2 ⟨rfl,rfl⟩
          go_wp2
          go_returns
          exact ⟨by rw [hok.out]; simp [h1,h3],rfl⟩
      · have t2:((u:Int)==1)=false:=by simp; omega
        go_wp2_with fail
        refine HK.out.mono ?_
        rintro e w2 ⟨rfl,rfl⟩
        go_wp2
        go_returns
        exact ⟨by rw [hok.out]; simp [h1,h2],rfl⟩
end Go.Proofs.YtigjingielnaoaaGreatDoor
namespace Go.Proofs.YtigjingielnaoaaGreatDoor
open Go.RowKit
theorem Wz:(Tryz.prog.info? 5).map (fun i=>(i.zero,i.size,i.bytes))=some (some (.int .u8 0),1,1):=by kernel_rfl
end Go.Proofs.YtigjingielnaoaaGreatDoor
namespace Go.Proofs.YtigjingielnaoaaGreatDoor
open Go.RowKit
theorem Kk:(Tryz.prog.info? 280).map (·.size)=some 16:=by kernel_rfl
def zbO (w:World) (l:List Int) (e:Ending) (w':World):Prop :=
 Upd [] w w'∧((xl l=true∧e = .returned (.tuple #[.agg (zy (cl (zi l))).toArray,.bool true])) ∨
  (xl l=false ∧ ∃ c,c.length=16∧e = .returned (.tuple #[.agg (zy c).toArray,.bool false])))
def zdk (w:World) (l:List Int) (i:Nat) (wr:World):Prop:=xl (l.take i)=true∧Blk wr w.heap.size (zy (cl0 (zi (l.take i)))) 280∧Upd [] w wr
theorem kS {w:World} {fn:Func} {p u:Tmp} {b:Nat} {cs:List Value} {tmps:Array Value} (h:fn.results = #[.cell p 280,.tmp u]) (hp:tmps.getD p undef = .pointer (some ⟨b,0,none⟩)) {t:TypeId} (hB:Blk w b cs t) (hl:cs.length=16) :
 (results fn tmps).run Tryz.prog w = .ok (.tuple #[.agg cs.toArray,tmps.getD u undef]) w:=by
 have hp':tmps[p]?.getD undef = .pointer (some ⟨b,0,none⟩):=by simpa using hp
 have hr:=run_loadVar_row (P:=Tryz.prog) w b t 280 cs.toArray (0,0) _ hB Tryz.underlying280 rfl (by rw [Kk]; simp [hl])
 simp [results,h,hp',asAddr,hr]
set_option maxRecDepth 100000 in
set_option maxHeartbeats 3200000 in
theorem Zj (a:Option Addr) (len cap:Nat) (l:List Int) (w:World) (hlen:len≤9223372036854775807) (hI:IntsIn w a len l) :
 Calls Tryz.prog 253 #[.slice a len cap] w (zbO w l):=by
 have hll:=hI.len
 have HI:=Lib.hid hI
 clear hI
 subst hll
 by_cases hlong:300<l.length
 · have hnz:((l.length:Nat):Int)>300:=by omega
   have hok:=Jv hlong
   have HOK:=Lib.hid hok
   clear hok hlong
   go_enter Tryz.func253,Tryz.ntmps253
   have hB:=Blk.new w (zy (List.replicate 16 0)) 280
   go_wp2_with (first
    | (refine zG rfl 280 _ rfl w.heap.size rfl 280 (zy (List.replicate 16 0)) hB _ Tryz.underlying280 rfl (by kernel_rfl) ?_)
    | (refine zO rfl 280 _ _ rfl w.heap.size rfl (zy (List.replicate 16 0)) rfl 280 _ hB (by kernel_rfl) rfl (jj _) ?_; intro w2 hB2 hU2))
   exact bodyPost_ret (kS rfl rfl hB2 rfl) rfl ⟨((Upd.refl _ _).alloc _).trans hU2 (fun k hk=>by simp at hk; right; omega),.inr ⟨HOK.out,_,rfl,rfl⟩⟩
 · have hnz : ¬ ((l.length:Nat):Int)>300:=by omega
   go_enter Tryz.func253,Tryz.ntmps253
   go_wp2
   go_loopg [12] l.length (fun g s12 wr => ∃ i,i≤l.length∧g=l.length-i∧s12 = .int .i64 (i:Nat)∧zdk w l i wr)
   case atStart=>exact ⟨0,by omega,rfl,rfl,kZ (by simp) (by simp),Blk.new w (zy (List.replicate 16 0)) 280,(Upd.refl _ _).alloc _⟩
   case round =>
    obtain ⟨i,hin,rfl,rfl,hok,hB,hU⟩:=hrel
    by_cases hc:i<l.length
    · have hcz:(i:Int)<(l.length:Int):=by omega
      obtain ⟨b,off,rfl,c0,r1,r2⟩:=(HI.out.pure hU).cell i hc
      by_cases hb:0≤l[i]∧l[i]≤15
      · obtain ⟨hb0,hb15⟩:=hb
        have hok2:=Lib.hid (JK hc hok (by omega) hb0 hb15)
        obtain ⟨k,hk⟩ : ∃ k:Nat,l[i]=(k:Int):=⟨l[i].toNat,by omega⟩
        have hn2:=Lib.hid (show zi (l.take (i+1))=zi (l.take i)++[k] by rw [take_snoc' l i hc]; simp [zi,hk])
        rw [hk] at c0 hb0 hb15
        have hcl:=Lib.hid (zcJ (zi (l.take i)) k (by omega))
        have hcc:(zi (l.take i)).count k≤300:=Nat.le_trans List.count_le_length (by rw [yD,List.length_take]; omega)
        have hk16:k<16:=by omega
        have d0:=hB.cell k (zZ _ _ _ (vA (zi (l.take i)) k hk16))
        have f0:=hB.frz k
        clear hk r1 r2
        generalize (zi (l.take i)).count k=C at *
        go_wp2
        go_roundg (l.length-(i+1))
        case measure=>omega
        case rel =>
         refine ⟨i+1,by omega,rfl,by go_num,hok2.out,?_,hU.setCell (.inr (Nat.le_refl _)) _⟩
         rw [hn2.out,hcl.out,vM]
         exact hB.set k _
      · have hokF:=Lib.hid (Za hc hb)
        have hlen0:(zy (cl0 (zi (l.take i)))).length=16:=by rw [zY,xR]
        have hlc:=xR (zi (l.take i))
        generalize cl0 (zi (l.take i))=c at *
        by_cases hb0:l[i]<0
        · generalize l[i]=x at *
          go_wp2_with (first
           | (refine zG rfl 280 _ rfl w.heap.size rfl 280 _ hB _ Tryz.underlying280 rfl (by rw [hlen0]; kernel_rfl) ?_)
           | (refine zO rfl 280 _ _ rfl w.heap.size rfl _ rfl 280 _ hB (by rw [hlen0]; kernel_rfl) rfl (jj _) ?_; intro w2 hB2 hU2))
          exact bodyPost_ret (kS rfl rfl hB2 hlen0) rfl ⟨hU.trans hU2 (fun k hk=>by simp at hk; right; omega),.inr ⟨hokF.out,_,hlc,rfl⟩⟩
        · have hb15:15<l[i]:=by omega
          generalize l[i]=x at *
          clear hb
          go_wp2_with (first
           | (refine zG rfl 280 _ rfl w.heap.size rfl 280 _ hB _ Tryz.underlying280 rfl (by rw [hlen0]; kernel_rfl) ?_)
           | (refine zO rfl 280 _ _ rfl w.heap.size rfl _ rfl 280 _ hB (by rw [hlen0]; kernel_rfl) rfl (jj _) ?_; intro w2 hB2 hU2))
          exact bodyPost_ret (kS rfl rfl hB2 hlen0) rfl ⟨hU.trans hU2 (fun k hk=>by simp at hk; right; omega),.inr ⟨hokF.out,_,hlc,rfl⟩⟩
    · have hcz : ¬ (i:Int)<(l.length:Int):=by omega
      have hi:i=l.length:=by omega
      rw [hi,List.take_length] at hok hB
      have hcl:=Lib.hid (zeE (zi l))
      have d0:=hB.cell 0 (zZ _ _ _ (vA (zi l) 0 (by omega)))
      have f0:=hB.frz 0
      have hB1:=hB.set 0 (.int .i64 0)
      have hB1':Blk (wr.setCell ⟨w.heap.size,0,none⟩ (.int .i64 0)) w.heap.size (zy (cl (zi l))) 280:=by
       rw [← hcl.out,vM]; exact hB1
      clear hB1 hi
      have hlen0:(zy (cl (zi l))).length=16:=by rw [zY,xX]
      generalize hgc:cl (zi l)=c at *
      have HGC:=Lib.hid hgc
      clear hgc
      go_wp2_with (first
       | (refine zG rfl 280 _ rfl w.heap.size rfl 280 _ hB1' _ Tryz.underlying280 rfl (by rw [hlen0]; kernel_rfl) ?_)
       | (refine zO rfl 280 _ _ rfl w.heap.size rfl _ rfl 280 _ hB1' (by rw [hlen0]; kernel_rfl) rfl (jj _) ?_; intro w2 hB2 hU2))
      exact bodyPost_ret (kS rfl rfl hB2 hlen0) rfl ⟨(hU.setCell (.inr (Nat.le_refl _)) _).trans hU2 (fun k hk=>by simp at hk; right; omega),.inl ⟨hok,by rw [HGC.out]; rfl⟩⟩
theorem zbj (p c k:Nat) (hp:p≤200000000) (hc:c≤300):wrap64 ((p:Int)+wrap64 ((c:Int)*2^(15-k)))=((p+c*2^(15-k):Nat):Int):=by
 have h1:2^(15-k)≤2^15:=Nat.pow_le_pow_right (by omega) (by omega)
 have h2:c*2^(15-k)≤300*2^15:=Nat.mul_le_mul hc h1
 have e:(2:Int)^(15-k)=((2^(15-k):Nat):Int):=by simp
 have h3:wrap64 ((c*2^(15-k):Nat):Int)=((c*2^(15-k):Nat):Int):=IntWalk.wrap64_in _ (by omega)
 rw [e,← Int.natCast_mul,h3,← Int.natCast_add]
 exact IntWalk.wrap64_in _ (by omega)
set_option maxRecDepth 100000 in
set_option maxHeartbeats 3200000 in
theorem kE (a:Option Addr) (len cap:Nat) (l:List Int) (w:World) (hlen:len≤9223372036854775807) (hI:IntsIn w a len l) :
 Calls Tryz.prog 249 #[.slice a len cap] w fun e w'=>e = .returned (.int .i64 (zn l:Nat))∧Upd [] w w':=by
 have HC:=Lib.hid (Zj a len cap l w hlen hI)
 clear hI
 go_enter Tryz.func249,Tryz.ntmps249
 go_wp2_with fail
 refine HC.out.mono ?_
 rintro e w1 ⟨hU1,⟨hok,rfl⟩ | ⟨hok,c,hlc,rfl⟩⟩
 · have HOK:=Lib.hid hok
   clear hok
   have hlen0:(zy (cl (zi l))).length=16:=by rw [zY,xX]
   have hidx : ∀ i:Nat,i<16 → ∀ W,(Instr.index 280 (.agg (zy (cl (zi l))).toArray) (.int .i64 (i:Int))).run Tryz.prog W = .ok (.int .i64 (cnt (zi l) i:Nat)) W:=fun i hi W=>by
    rw [YA (P:=Tryz.prog) 280 3 16 Tryz.underlying280 .i64 Tryz.underlying3 (by kernel_rfl) (zy (cl (zi l))) hlen0 .i64 i hi]
    rw [List.getD,zZ _ _ _ (XR (zi l) i hi)]; rfl
   have HX:=Lib.hid hidx
   clear hidx
   have hpl:=Lib.hid (fun k hk=>zdG (zi l) k hk (by rw [yD]; exact (zU HOK.out).1))
   have hcl:=Lib.hid (fun k=>Nat.le_trans (zcg (zi l) k) (by rw [yD]; exact (zU HOK.out).1))
   have hkind:=Lib.hid (show zn l=kN (zi l) by unfold zn; rw [if_pos HOK.out])
   have hps:=Lib.hid (Xc (zi l) (fun x hx=>by
    simp only [zi,List.mem_map] at hx
    obtain ⟨y,hy,rfl⟩:=hx
    have:=(zU HOK.out).2 y hy; omega))
   generalize zi l=n at *
   go_wp2_with (first
    | (refine zO rfl 280 _ _ rfl w1.heap.size rfl _ rfl 280 _ (Blk.new w1 (zy (List.replicate 16 0)) 280) (by kernel_rfl) hlen0 (jj _) ?_; intro w2 hB2 hU2)
    | (refine zG rfl 280 _ rfl w1.heap.size rfl 280 _ hB2 _ Tryz.underlying280 rfl (by rw [hlen0]; kernel_rfl) ?_))
   have hU3:Upd [] w w2:=(hU1.alloc _).trans hU2 (fun k hk=>by simp at hk; right; have:=hU1.size; omega)
   go_loopg [5,16] 16 (fun g s5 s16 wr => ∃ k,k≤16∧g=16-k∧s16 = .int .i64 (k:Nat)∧s5 = .int .i64 (qN n k:Nat)∧w2=wr)
   case atStart=>exact ⟨0,by omega,rfl,rfl,rfl,rfl⟩
   case round =>
    obtain ⟨k,hk,rfl,rfl,rfl,rfl⟩:=hrel
    have hle:=hpl.out k hk
    by_cases hc:k<16
    · have hcz:(k:Int)<16:=by omega
      have hx:=HX.out k hc
      have hcle:=hcl.out k
      have hsn:=Lib.hid (show qN n (k+1)=qN n k+cnt n k*2^(15-k) by rfl)
      generalize qN n k=p at *
      generalize cnt n k=c at *
      go_wp2
      go_roundg (16-(k+1))
      case measure=>omega
      case rel =>
       refine ⟨k+1,by omega,rfl,by go_num,?_,rfl⟩
       rw [hsn.out,zbj _ _ _ (by omega) hcle]
    · have hk16:k=16:=by omega
      have hcz : ¬ (k:Int)<16:=by omega
      rw [hk16,hps.out] at hle ⊢
      have hkc:=Jt n
      clear hk16
      generalize xA n=s at *
      rcases hkc with ⟨h0,hkn⟩ | ⟨h0,h1,hkn⟩ | ⟨h0,hkn⟩ | ⟨h0,hkn⟩
      · have HK:=Lib.hid hkn
        have hs:(s:Int)=0:=by omega
        clear hkn
        go_wp2
        go_returns
        exact ⟨by rw [hkind.out,HK.out]; rfl,hU3⟩
      · have HK:=Lib.hid hkn
        have hs1:((s:Int)==0)=false:=by simp; omega
        have hs2:decide ((s:Int)<32768)=true:=by simp; omega
        clear hkn h0 h1 hle
        go_wp2
        go_returns
        exact ⟨by rw [hkind.out,HK.out]; rfl,hU3⟩
      · have HK:=Lib.hid hkn
        have hs:(s:Int)=32768:=by omega
        clear hkn
        go_wp2
        go_returns
        exact ⟨by rw [hkind.out,HK.out]; rfl,hU3⟩
      · have HK:=Lib.hid hkn
        have hs1:((s:Int)==0)=false:=by simp; omega
        have hs2:decide ((s:Int)<32768)=false:=by simp; omega
        have hs3:((s:Int)==32768)=false:=by simp; omega
        clear hkn h0 hle
        go_wp2
        go_returns
        exact ⟨by rw [hkind.out,HK.out]; rfl,hU3⟩
 · have hlen0:(zy c).length=16:=by rw [zY,hlc]
   have hkind:=Lib.hid (show zn l=3 by unfold zn; rw [if_neg (by rw [hok]; decide)])
   clear hok
   go_wp2_with (first
    | (refine zO rfl 280 _ _ rfl w1.heap.size rfl _ rfl 280 _ (Blk.new w1 (zy (List.replicate 16 0)) 280) (by kernel_rfl) hlen0 (jj _) ?_; intro w2 hB2 hU2))
   go_returns
   exact ⟨by rw [hkind.out]; rfl,(hU1.alloc _).trans hU2 (fun k hk=>by simp at hk; right; have:=hU1.size; omega)⟩
end Go.Proofs.YtigjingielnaoaaGreatDoor
namespace Go.Proofs.YtigjingielnaoaaGreatDoor
open Go.RowKit
theorem zdw:(Tryz.prog.info? 22).map (fun i=>(i.zero,i.size,i.bytes))=some (some (.int .u32 0),1,4):=by kernel_rfl
end Go.Proofs.YtigjingielnaoaaGreatDoor
namespace Go.Proofs.YtigjingielnaoaaGreatDoor
open Go.RowKit
def jZ (l:List Nat):List Value:=l.map fun x:Nat => .int .u32 (x:Int)
theorem VZ (l:List Nat):(jZ l).length=l.length:=by simp [jZ]
theorem zdi (l:List Nat) (i x:Nat):jZ (l.set i x)=(jZ l).set i (.int .u32 (x:Int)):=by simp [jZ,List.map_set]
theorem zb2 (l:List Nat) (i x:Nat) (h:l[i]? =some x):(jZ l)[i]? =some (.int .u32 (x:Int)):=by simp [jZ,h]
def zbz (w:World) (l:List Int) (e:Ending) (w':World):Prop :=
 Upd [] w w'∧((zn l=3∧e = .returned (.slice none 0 0)) ∨
  (zn l≠3 ∧ ∃ g,e = .returned (.slice (some ⟨g,0,none⟩) l.length l.length)∧w.heap.size≤g∧Row w' 22 1 (.slice (some ⟨g,0,none⟩) l.length l.length) l.length (jZ (kP (zi l)))))
end Go.Proofs.YtigjingielnaoaaGreatDoor
namespace Go.Proofs.YtigjingielnaoaaGreatDoor
open Go.RowKit
def Jr (w:World) (n:List Nat) (g k i:Nat) (wr:World):Prop :=
 Row wr 22 1 (.slice (some ⟨g,0,none⟩) n.length n.length) n.length (jZ (km n k i))∧Upd [] w wr
set_option maxRecDepth 100000 in
set_option maxHeartbeats 3200000 in
theorem Ww (a:Option Addr) (len cap:Nat) (l:List Int) (w:World) (hlen:len≤9223372036854775807) (hI:IntsIn w a len l) :
 Calls Tryz.prog 208 #[.slice a len cap] w (zbz w l):=by
 have hll:=hI.len
 have HI:=Lib.hid hI
 clear hI
 subst hll
 have HK:=Lib.hid (jB a l.length cap l w hlen HI.out)
 obtain ⟨i0,hi0,hz0,hz1,hz2⟩:=info_parts zdw
 by_cases hk3:zn l=3
 · have H3:=Lib.hid hk3
   rw [hk3] at HK
   clear hk3
   go_enter Tryz.func208,Tryz.ntmps208
   go_wp2_with fail
   refine HK.out.mono ?_
   rintro e w1 ⟨rfl,rfl⟩
   go_wp2
   go_returns
   exact ⟨.refl _ _,.inl ⟨H3.out,rfl⟩⟩
 · obtain ⟨hok,hps⟩:=kX hk3
   have hkb:((zn l:Nat):Int)≠3:=by omega
   have H3:=Lib.hid hk3
   have HO:=Lib.hid hok
   generalize zn l=kk at HK hkb
   clear hk3
   have hnl:=yD l
   have h300:=(zU HO.out).1
   have hpb:=Lib.hid (fun k hk=>XM (zi l) hps k hk)
   clear hps hok
   go_enter Tryz.func208,Tryz.ntmps208
   go_wp2_with fail
   refine HK.out.mono ?_
   rintro e w1 ⟨rfl,rfl⟩
   go_wp2_with (refine kY _ rfl _ _ 233 rfl 22 i0 _ Tryz.underlying233 hi0 hz0 hz1 rfl .i64 .i64 _ _ l.length rfl rfl rfl rfl (by rw [hz2]; omega) (by unfold maxLen; omega) ?_; intro w6 hR6 hU6 hs6)
   have hRel0:Jr w (zi l) w.heap.size 1 0 w6:=by
    refine ⟨?_,hU6⟩
    rw [zez,hnl]
    have e:jZ (List.replicate l.length 0)=List.replicate l.length (.int .u32 0):=by simp [jZ]
    rw [e]; exact hR6
   clear hR6 hU6 hs6
   have hgs:w.heap.size≤w.heap.size:=Nat.le_refl _
   generalize hgg:w.heap.size=g at *
   have HG:=Lib.hid hgg
   clear hgg
   go_loopg [4,5] 15 (fun gg s4 s5 wr => ∃ k,k≤15∧gg=15-k∧s5 = .int .i64 ((k+1:Nat):Int)∧s4 = .int .u32 ((fst (zi l) k+cnt (zi l) k:Nat):Int)∧Jr w (zi l) g (k+1) 0 wr)
   case atStart=>exact ⟨0,by omega,rfl,rfl,rfl,hRel0⟩
   case round =>
    obtain ⟨k,hk,rfl,rfl,rfl,hR,hU⟩:=hrel
    clear hRel0
    have hle:=hpb.out k hk
    have hp15:2^k≤2^15:=Nat.pow_le_pow_right (by omega) (by omega)
    have hfs:fst (zi l) (k+1)=2*(fst (zi l) k+cnt (zi l) k):=rfl
    by_cases hc:k<15
    · have hcz:(k:Int)+1≤15:=by omega
      have hle2:=hpb.out (k+1) (by omega)
      have hp16:2^(k+1)≤2^15:=Nat.pow_le_pow_right (by omega) (by omega)
      have hf1:((2*(fst (zi l) k+cnt (zi l) k):Nat):Int)=((fst (zi l) (k+1)+cnt ((zi l).take 0) (k+1):Nat):Int):=by rw [hfs]; simp [cnt]
      have HF:=Lib.hid hf1
      clear hf1 hfs
      generalize fst (zi l) k+cnt (zi l) k=q at *
      go_wp2
      go_loopg [4,21] l.length (fun gg s4 s21 wx => ∃ i,i≤l.length∧gg=l.length-i∧s21 = .int .i64 (i:Nat)∧s4 = .int .u32 ((fst (zi l) (k+1)+cnt ((zi l).take i) (k+1):Nat):Int)∧Jr w (zi l) g (k+1) i wx)
      case atStart=>exact ⟨0,by omega,rfl,rfl,by rw [← HF.out]; simp,hR,hU⟩
      case round =>
       obtain ⟨i,hin,rfl,rfl,rfl,hR2,hU2⟩:=hrel
       have hct:=Vw (zi l) i (k+1)
       by_cases hc2:i<l.length
       · have hcz2:(i:Int)<(l.length:Int):=by omega
         obtain ⟨b,off,rfl,c0,r1,r2⟩:=(HI.out.pure hU2).cell i hc2
         have hkk:=(zU HO.out).2 _ (List.getElem_mem hc2)
         obtain ⟨x,hx⟩ : ∃ x:Nat,l[i]=(x:Int):=⟨l[i].toNat,by omega⟩
         have hin':i<(zi l).length:=by omega
         have hnk:(zi l)[i]=x:=by simp [zi,hx]
         have hnd:(zi l).getD i 0=x:=by rw [List.getD,List.getElem?_eq_getElem hin']; exact hnk
         rw [hx] at c0 hkk
         have hcs:=zdp (zi l) i (k+1) hin'
         rw [hnk] at hcs
         clear hx r1 r2
         have hqb:fst (zi l) (k+1)+cnt ((zi l).take i) (k+1)≤32768:=by omega
         have hR3:=hR2
         rw [hnl] at hR3
         obtain ⟨xo,hxo⟩ : ∃ x,(jZ (km (zi l) (k+1) i))[i]? =some x:=⟨_,List.getElem?_eq_getElem (by rw [VZ,JA]; omega)⟩
         have d2:=Row.cell hR3 i hxo
         have f2:=Row.frz hR3 i
         by_cases hxk:x=k+1
         · have h2:=zdj (zi l) (k+1) i (by rw [hnd,hxk])
           have h3:=KA (zi l) i hin' (by omega)
           rw [hnk,hxk] at h3
           rw [h3] at h2
           have H2:=Lib.hid h2
           have hxz:(x:Int)=(k:Int)+1:=by omega
           have hcs2:Hid (fst (zi l) (k+1)+cnt ((zi l).take i) (k+1)+1=fst (zi l) (k+1)+cnt ((zi l).take (i+1)) (k+1)):=Lib.hid (by rw [hcs,if_pos ⟨hxk,by omega⟩]; omega)
           clear h2 h3 hcs hnk hnd hxo hxk hct hle2 hR2
           generalize fst (zi l) (k+1)+cnt ((zi l).take i) (k+1)=q2 at *
           go_wp2
           go_roundg (l.length-(i+1))
           case measure=>omega
           case rel =>
            refine ⟨i+1,by omega,rfl,by go_num,by rw [← hcs2.out]; go_num,?_,hU2.setCell (.inr (by rw [HG.out]; exact Nat.le_refl _)) _⟩
            rw [← H2.out,zdi,hnl]
            exact hR3.set i _
         · have h2:=Lib.hid (zbi (zi l) (k+1) i (by rw [hnd]; exact hxk))
           have hxz : ¬ (x:Int)=(k:Int)+1:=by omega
           have hcs2:Hid (fst (zi l) (k+1)+cnt ((zi l).take i) (k+1)=fst (zi l) (k+1)+cnt ((zi l).take (i+1)) (k+1)):=Lib.hid (by rw [hcs,if_neg (fun e=>hxk e.1)]; omega)
           clear hcs hnk hnd hxo hxk hct hle2
           generalize fst (zi l) (k+1)+cnt ((zi l).take i) (k+1)=q2 at *
           go_wp2
           go_roundg (l.length-(i+1))
           case measure=>omega
           case rel=>exact ⟨i+1,by omega,rfl,by go_num,by rw [hcs2.out],by rw [h2.out]; exact hR2,hU2⟩
       · have hcz2 : ¬ (i:Int)<(l.length:Int):=by omega
         have hi:i=(zi l).length:=by omega
         have hq:Hid (fst (zi l) (k+1)+cnt ((zi l).take i) (k+1)=fst (zi l) (k+1)+cnt (zi l) (k+1)):=Lib.hid (by rw [hi,List.take_length])
         have hR3:Row wr 22 1 (.slice (some ⟨g,0,none⟩) (zi l).length (zi l).length) (zi l).length (jZ (km (zi l) (k+1+1) 0)):=by
          rw [hi] at hR2; rw [← zby]; exact hR2
         clear hi
         generalize fst (zi l) (k+1)+cnt ((zi l).take i) (k+1)=q2 at *
         go_wp2
         go_roundg (15-(k+1))
         case measure=>omega
         case rel=>exact ⟨k+1,by omega,rfl,by go_num,by rw [hq.out],hR3,hU2⟩
    · have hk15:k=15:=by omega
      have hcz : ¬ (k:Int)+1≤15:=by omega
      rw [hk15,zdB _ (zam HO.out),hnl] at hR
      clear hfs hle hp15 hk15
      generalize fst (zi l) k+cnt (zi l) k=q at *
      go_wp2
      go_returns
      exact ⟨hU,.inr ⟨H3.out,g,rfl,by rw [HG.out]; exact Nat.le_refl _,hR⟩⟩
end Go.Proofs.YtigjingielnaoaaGreatDoor
