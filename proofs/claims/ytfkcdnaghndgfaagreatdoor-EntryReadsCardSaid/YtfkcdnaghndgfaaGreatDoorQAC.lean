/- lens.Fixed: its walk. -/
import Derived.Test.YtfkcdnaghndgfaaGreatDoorQAB
import Derived.Test.YtfkcdnaghndgfaaGreatDoorQAA
import Derived.Test.YtfkcdnaghndgfaaGreatDoorRows
import Derived.WalkKit
import Derived.StillTailTactics
import Derived.BigQuiet
import Derived.Deep.RegionHeld3
import Derived.Deep.RegionLaw
import Derived.Deep.DeepCutAuto
import Derived.Deep.DeepFit
import Derived.Deep.LoopGhost
import Derived.Deep.Light
set_option linter.unusedVariables false
set_option linter.unusedSimpArgs false
set_option linter.unusedSectionVars false
namespace Go.Proofs.YtfkcdnaghndgfaaGreatDoor
open Go.RowKit
def qc:List (Nat×Nat):=[(144,8),(112,9),(24,7),(8,8)]
def xG (i:Nat):List Nat:=(qc.take i).flatMap fun r=>List.replicate r.1 r.2
def zf4:List Value:=[.int .i64 144,.int .i64 8,.int .i64 112,.int .i64 9,.int .i64 24,.int .i64 7,.int .i64 8,.int .i64 8]
theorem zfu (i:Nat):(xG i).length≤288:=by
 unfold xG qc
 rcases i with _ | _ | _ | _ | i<;>simp only [List.take_zero,List.take_succ_cons,List.take_nil,List.flatMap_cons,List.flatMap_nil,List.length_append,List.length_replicate,List.length_nil,Nat.zero_add]<;>omega
theorem zez (i:Nat) (h:i<4):xG (i+1)=xG i++List.replicate (qc.getD i (0,0)).1 (qc.getD i (0,0)).2:=by
 have ht:qc.take (i+1)=qc.take i++[qc.getD i (0,0)]:=by
  rw [List.take_add_one,List.getD_eq_getElem?_getD,List.getElem?_eq_getElem (show i<qc.length from h)]
  rfl
 unfold xG
 rw [ht,List.flatMap_append]
 simp only [List.flatMap_cons,List.flatMap_nil,List.append_nil]
def zir (w wr:World) (b:Nat) (v:Value) (i:Nat):Prop :=
 Row wr 3 1 v (xG i).length (zf (xG i))∧Upd [] w wr∧Blk wr b zf4 203∧v.ownBlock≠some b ∧ ∀ k,v.ownBlock=some k→w.heap.size≤k
set_option maxRecDepth 100000 in
set_option maxHeartbeats 3200000 in
theorem QB (w:World):Calls Tryz.prog 122 #[] w fun e w' => ∃ g1 c1 g2,e = .returned (.tuple #[.slice (some ⟨g1,0,none⟩) 288 c1,.slice (some ⟨g2,0,none⟩) 32 32]) ∧
 Row w' 3 1 (.slice (some ⟨g1,0,none⟩) 288 c1) 288 (zf (xG 4))∧Row w' 3 1 (.slice (some ⟨g2,0,none⟩) 32 32) 32 (zf (List.replicate 32 5))∧Upd [] w w'∧w.heap.size≤g1∧w.heap.size≤g2:=by
 obtain ⟨i0,hi0,hz0,hz1,hz2⟩:=info_parts qr
 go_enter Tryz.func122,Tryz.ntmps122
 go_wp2
 go_loopg [0,10] 4 (fun g s0 s10 wr => ∃ i,i≤4∧g=4-i∧s10 = .int .i64 (i:Nat)∧zir w wr w.heap.size s0 i)
 case atStart=>exact ⟨0,by omega,rfl,rfl,Row.nil _ _ _,(Upd.refl _ _).alloc _,Blk.new _ _ _,by simp [Value.ownBlock],by simp [Value.ownBlock]⟩
 case round =>
  obtain ⟨i,hi,rfl,rfl,hRow,hU,hB,hne,hnew⟩:=hrel
  by_cases hc:i<4
  · have hcz:(i:Int)<4:=by omega
    obtain ⟨r,hr⟩ : ∃ r,r=qc.getD i (0,0):=⟨_,rfl⟩
    have hst:=zez i hc
    rw [← hr] at hst
    have d0:wr.cell? ⟨w.heap.size,i*2,none⟩=some (.int .i64 (r.1:Nat)):=hB.cell (i*2) (by rw [hr]; rcases i with _ | _ | _ | _ | i<;>first | rfl | omega)
    have d1:wr.cell? ⟨w.heap.size,i*2+1,none⟩=some (.int .i64 (r.2:Nat)):=hB.cell (i*2+1) (by rw [hr]; rcases i with _ | _ | _ | _ | i<;>first | rfl | omega)
    have hr1:1≤r.1∧r.1≤144∧r.2≤15:=by rw [hr]; rcases i with _ | _ | _ | _ | i<;>first | decide | omega
    have hlen:=zfu i
    obtain ⟨n,x⟩:=r
    simp only at d0 d1 hr1 hst
    generalize xG i=L at *
    clear hr
    go_wp2_with fail
    have hU2:Upd [] wr ((wr.alloc (Obj.cells #[.int .i64 (n:Nat),.int .i64 (x:Nat)] 203)).alloc (Obj.cells #[.int .i64 (x:Nat)] 3)):=((Upd.refl [] wr).alloc _).alloc _
    have hcc:((wr.alloc (Obj.cells #[.int .i64 (n:Nat),.int .i64 (x:Nat)] 203)).alloc (Obj.cells #[.int .i64 (x:Nat)] 3)).cell? ⟨wr.heap.size+1,0,none⟩=some (.int .i64 (x:Nat)):=by
     have h:=(Blk.new (wr.alloc (Obj.cells #[.int .i64 (n:Nat),.int .i64 (x:Nat)] 203)) [.int .i64 (x:Nat)] 3).cell 0 rfl
     rw [World.size_alloc] at h
     exact h
    generalize ((wr.alloc (Obj.cells #[.int .i64 (n:Nat),.int .i64 (x:Nat)] 203)).alloc (Obj.cells #[.int .i64 (x:Nat)] 3))=w2 at *
    refine (XN (wr.heap.size+1) 0 1 n x w2 hcc hr1.1 (by omega)).mono ?_
    rintro e w5 ⟨rfl,hR5,hU5,hs5⟩
    have hRow5:=(hRow.upd hU2 (by simp)).upd hU5 (by simp)
    have hB5:=(hB.upd hU2 (by simp)).upd hU5 (by simp)
    have hUw5:=(hU.then hU2).then hU5
    have hnl:(List.replicate n (Value.int .i64 (x:Nat))).length=n*1:=by simp
    have hnews : ∀ j u,(List.replicate n (Value.int .i64 (x:Nat)))[j]? =some u→w5.cell? ((⟨w2.heap.size,0,none⟩:Addr).add j)=some u:=fun j u hj=>by
     have h:=hR5.cell j hj
     cases j with
     | zero=>exact h
     | succ j=>simpa [Addr.add] using h
    have hone : ∀ u∈List.replicate n (Value.int .i64 (x:Nat)),u.oneCell'=true:=by intro u hu; rw [(List.mem_replicate.1 hu).2]; rfl
    clear hRow hB hU hU2 hcc hR5 hs5 d0 d1
    obtain ⟨news,hnw⟩ : ∃ l,l=List.replicate n (Value.int .i64 (x:Nat)):=⟨_,rfl⟩
    rw [← hnw] at hnl hnews hone
    have HNW:=Lib.hid hnw
    have HNEWS:=Lib.hid hnews
    have HONE:=Lib.hid hone
    clear hnw hnews hone
    go_wp2_with (at_builtin; refine zC _ rfl _ _ 98 rfl 3 i0 _ 1 8 Tryz.underlying98 hi0 hz0 hz1 hz2 rfl (by omega) _ L.length _ rfl hRow5 ⟨w2.heap.size,0,none⟩ n n news rfl hnl HNEWS.out HONE.out (by unfold maxLen; omega) (by omega) ?_)
    intro v9 w9 hR9 hU9 hT9
    go_wp2
    go_roundg (4-(i+1))
    case measure=>omega
    case rel =>
     refine ⟨i+1,by omega,rfl,rfl,?_,?_,?_,?_,?_⟩
     · rw [hst,List.length_append,List.length_replicate]
       rw [HNW.out] at hR9
       simpa [zf,List.map_append] using hR9
     · exact hUw5.trans hU9 (fun k hk => .inr (hnew k (by simpa using hk)))
     · exact hB5.upd hU9 (by simpa [eq_comm] using hne)
     · exact hT9.ne hB5.lt hne
     · intro k hk
       rcases hT9 with h | ⟨g,h1,h2⟩
       · rw [h] at hk; exact hnew k hk
       · rw [h1] at hk; cases hk; exact Nat.le_trans hUw5.size h2
  · have hcz : ¬ (i:Int)<4:=by omega
    have hi4:i=4:=by omega
    subst hi4
    have hL4:(xG 4).length=288:=by
     unfold xG qc
     simp only [List.take_succ_cons,List.take_nil,List.flatMap_cons,List.flatMap_nil,List.length_append,List.length_replicate,List.length_nil]
    rw [hL4] at hRow
    generalize hL:xG 4=L4 at *
    have HL:=Lib.hid hL
    clear hL
    obtain ⟨g1,c1,rfl,hg1,hg2⟩:=hRow.form' (by omega)
    have hgw:w.heap.size≤g1:=hnew g1 rfl
    go_wp2_with fail
    have hU2:Upd [] wr (wr.alloc (Obj.cells #[.int .i64 5] 3)):=(Upd.refl [] wr).alloc _
    have hcc:=(Blk.new wr [.int .i64 5] 3).cell 0 rfl
    refine (XN wr.heap.size 0 1 32 5 _ hcc (by omega) (by omega)).mono ?_
    rintro e w5 ⟨rfl,hR5,hU5,hs5⟩
    have hsz:=hU2.size
    generalize wr.alloc (Obj.cells #[.int .i64 5] 3)=w2 at *
    have hRow5:=(hRow.upd hU2 (by simp)).upd hU5 (by simp)
    have hUw5:=(hU.then hU2).then hU5
    go_wp2
    go_returns
    exact ⟨g1,c1,w2.heap.size,rfl,by rw [HL.out]; exact hRow5,hR5,hUw5,hgw,Nat.le_trans hU.size hsz⟩
end Go.Proofs.YtfkcdnaghndgfaaGreatDoor
namespace Go.Proofs.YtfkcdnaghndgfaaGreatDoor
open Go.RowKit
def OwnX (w0 w:World) (e:TypeId) (v:Value) (xs:List Value):Prop:=Row w e 1 v xs.length xs ∧ ∀ k,v.ownBlock=some k→w0.heap.size≤k
theorem OwnX.nil (w0 w:World) (e:TypeId):OwnX w0 w e (.slice none 0 0) []:=⟨Row.nil _ _ _,fun k h=>by cases h⟩
theorem OwnX.upd {w0 w w':World} {e:TypeId} {v:Value} {xs:List Value} (h:OwnX w0 w e v xs) (hu:Upd [] w w'):OwnX w0 w' e v xs:=⟨h.1.upd hu (by simp),h.2⟩
theorem OwnX.app {w0 w wm w':World} {e:TypeId} {v v':Value} {xs ys:List Value} (h:OwnX w0 w e v xs) (hu:Upd [] w0 w) (hm:Upd [] w wm) (hR:Row w' e 1 v' (xs.length+ys.length) (xs++ys)) (hU:Upd v.ownBlock.toList wm w') (hT:Later wm v v') :
 OwnX w0 w' e v' (xs++ys)∧Upd [] w0 w':=by
 refine ⟨⟨by rw [List.length_append]; exact hR,fun k hk=>?_⟩,(hu.then hm).trans hU (fun k hk => .inr (h.2 k (by simpa using hk)))⟩
 rcases hT with h1 | ⟨g,h1,h2⟩
 · exact h.2 k (by rw [← h1]; exact hk)
 · rw [h1] at hk; simp at hk h2; have:=(hu.then hm).size; omega
theorem OwnX.form {w0 w:World} {e:TypeId} {v:Value} {xs:List Value} (h:OwnX w0 w e v xs) : ∃ a c,v = .slice a xs.length c:=h.1.form
theorem OwnX.base {w0 w1 w:World} {e:TypeId} {v:Value} {xs:List Value} (h:OwnX w1 w e v xs) (hs:w0.heap.size≤w1.heap.size):OwnX w0 w e v xs:=⟨h.1,fun k hk=>Nat.le_trans hs (h.2 k hk)⟩
end Go.Proofs.YtfkcdnaghndgfaaGreatDoor
namespace Go.Proofs.YtfkcdnaghndgfaaGreatDoor
open Go.RowKit
def ints (l:List Nat):List Int:=l.map fun x:Nat=>(x:Int)
theorem IntsIn.row {w:World} {t:TypeId} {a:Option Addr} {k c:Nat} {l:List Nat} (h:Row w t 1 (.slice a k c) k (zf l)) (hb : ∀ x∈l,x≤9223372036854775807):IntsIn w a k (ints l):=by
 have hl:l.length=k:=by have:=h.len; rw [zl] at this; omega
 refine ⟨by simp [ints,hl],fun i hi=>?_⟩
 have hi2:i<l.length:=by simpa [ints] using hi
 obtain ⟨g,cc,e,_,_⟩:=h.form' (by omega)
 cases e
 have hx:=hb _ (List.getElem_mem hi2)
 refine ⟨g,0,rfl,?_,by simp [ints]<;>omega,by simp [ints]<;>omega⟩
 rw [Nat.zero_add,h.cell i (u := .int .i64 (l[i]:Nat)) (by simp [zf,hi2])]
 simp [ints]
theorem OwnX.ints {w0 w:World} {t:TypeId} {v:Value} {l:List Nat} (h:OwnX w0 w t v (zf l)) (hb : ∀ x∈l,x≤9223372036854775807) : ∃ a c,v = .slice a l.length c∧IntsIn w a l.length (ints l):=by
 obtain ⟨a,c,rfl⟩:=h.form
 have h1:=h.1
 rw [zl] at h1 ⊢
 exact ⟨a,c,rfl,IntsIn.row h1 hb⟩
theorem IntsIn.blk {w:World} {b n:Nat} {t:TypeId} {l:List Nat} (h:Blk w b (zf l) t) (hn:l.length=n) (hb : ∀ x∈l,x≤9223372036854775807):IntsIn w (some ⟨b,0,none⟩) n (ints l):=by
 refine ⟨by simp [ints,hn],fun i hi=>?_⟩
 have hi2:i<l.length:=by simpa [ints] using hi
 have hx:=hb _ (List.getElem_mem hi2)
 refine ⟨b,0,rfl,?_,by simp [ints]<;>omega,by simp [ints]<;>omega⟩
 rw [Nat.zero_add,h.cell i (v := .int .i64 (l[i]:Nat)) (by simp [zf,hi2])]
 simp [ints]
end Go.Proofs.YtfkcdnaghndgfaaGreatDoor
namespace Go.Proofs.YtfkcdnaghndgfaaGreatDoor
open Go.RowKit
theorem Zs (n:List Nat):(yy n=0∧jo n=0)∨(0<yy n∧yy n<32768∧jo n=2)∨(yy n=32768∧jo n=1)∨(32768<yy n∧jo n=3):=by
 unfold jo
 by_cases h1:yy n=0
 · simp [h1]
 · by_cases h2:yy n<32768
   · simp [h1,h2]; omega
   · by_cases h3:yy n=32768
     · simp [h3]
     · simp [h1,h2,h3]; omega
set_option maxRecDepth 100000 in
set_option maxHeartbeats 3200000 in
theorem kG (a:Option Addr) (len cap:Nat) (l:List Int) (w:World) (hlen:len≤9223372036854775807) (hI:IntsIn w a len l) :
 Calls Tryz.prog 110 #[.slice a len cap] w fun e w'=>e = .returned (.int .i64 (zg l:Nat))∧w=w':=by
 have hll:=hI.len
 have HI:=Lib.hid hI
 clear hI
 subst hll
 by_cases hlong:300<l.length
 · have hnz:((l.length:Nat):Int)>300:=by omega
   have hk:=Lib.hid (show zg l=3 by unfold zg; rw [if_neg (by rw [ZC hlong]; decide)])
   clear hlong
   go_enter Tryz.func110,Tryz.ntmps110
   go_wp2
   go_returns
   exact ⟨by rw [hk.out]; rfl,rfl⟩
 · have hnz : ¬ ((l.length:Nat):Int)>300:=by omega
   go_enter Tryz.func110,Tryz.ntmps110
   go_wp2
   go_loopg [3,13] l.length (fun g s3 s13 wr => ∃ i,i≤l.length∧g=l.length-i∧s13 = .int .i64 (i:Nat)∧s3 = .int .i64 (yy (ze (l.take i)):Nat)∧yG (l.take i)=true∧w=wr)
   case atStart=>exact ⟨0,by omega,rfl,rfl,rfl,kD (by simp) (by simp),rfl⟩
   case round =>
    obtain ⟨i,hin,rfl,rfl,rfl,hok,rfl⟩:=hrel
    have hle:yy (ze (l.take i))≤300*32768:=zh6 _ (by rw [zZ,List.length_take]; omega)
    by_cases hc:i<l.length
    · have hcz:(i:Int)<(l.length:Int):=by omega
      obtain ⟨b,off,rfl,c0,r1,r2⟩:=HI.out.cell i hc
      by_cases hb:0≤l[i]∧l[i]≤15
      · obtain ⟨hb0,hb15⟩:=hb
        have hok2:=Lib.hid (Zq hc hok (by omega) hb0 hb15)
        obtain ⟨k,hk⟩ : ∃ k:Nat,l[i]=(k:Int):=⟨l[i].toNat,by omega⟩
        have hn2:=Lib.hid (show yy (ze (l.take (i+1)))=yy (ze (l.take i))+wt k by rw [take_snoc' l i hc,← YQ]; simp [ze,hk])
        rw [hk] at c0 hb0 hb15
        clear hk r1 r2 hok
        generalize yy (ze (l.take i))=s at *
        go_wp2
        go_loopg [6,7] k (fun g s6 s7 wx => ∃ j,j≤k∧g=k-j∧s7 = .int .i64 (j:Nat)∧s6 = .int .i64 ((2^(15-j):Nat):Int)∧w=wx)
        case atStart=>exact ⟨0,by omega,rfl,rfl,rfl,rfl⟩
        case round =>
         obtain ⟨j,hj,rfl,rfl,rfl,rfl⟩:=hrel
         have hp:2^(15-j)≤2^15:=Nat.pow_le_pow_right (by omega) (by omega)
         by_cases hjk:j<k
         · have hjz:(j:Int)<(k:Int):=by omega
           have hpp:=Lib.hid (show 2^(15-j)/2=2^(15-(j+1)) by rw [show 15-j=(15-(j+1))+1 by omega,Nat.pow_succ,Nat.mul_div_cancel _ (by omega)])
           generalize 2^(15-j)=p at *
           go_wp2
           go_roundg (k-(j+1))
           case measure=>omega
           case rel=>exact ⟨j+1,by omega,rfl,by go_num,by rw [← hpp.out]; simp,rfl⟩
         · have hjz : ¬ (j:Int)<(k:Int):=by omega
           have hjk':j=k:=by omega
           by_cases hk0:k=0
           · have hkz : ¬ (0:Int)<(k:Int):=by omega
             have hw0:=Lib.hid (show wt k=0 by unfold wt; rw [if_pos hk0])
             clear hk0 hjk'
             generalize 2^(15-j)=p at *
             go_wp2
             go_roundg (l.length-(i+1))
             case measure=>omega
             case rel=>exact ⟨i+1,by omega,rfl,by go_num,by rw [hn2.out,hw0.out]; rfl,hok2.out,rfl⟩
           · have hkz:(0:Int)<(k:Int):=by omega
             have hw0:=Lib.hid (show wt k=2^(15-j) by unfold wt; rw [if_neg hk0,hjk'])
             clear hk0 hjk'
             generalize 2^(15-j)=p at *
             go_wp2
             go_roundg (l.length-(i+1))
             case measure=>omega
             case rel=>exact ⟨i+1,by omega,rfl,by go_num,by rw [hn2.out,hw0.out]; simp,hok2.out,rfl⟩
      · have hk:=Lib.hid (show zg l=3 by unfold zg; rw [if_neg (by rw [Yc hc hb]; decide)])
        generalize yy (ze (l.take i))=s at *
        by_cases hb0:l[i]<0
        · generalize l[i]=x at *
          clear hb
          go_wp2
          go_returns
          exact ⟨by rw [hk.out]; rfl,rfl⟩
        · have hb15:15<l[i]:=by omega
          generalize l[i]=x at *
          clear hb
          go_wp2
          go_returns
          exact ⟨by rw [hk.out]; rfl,rfl⟩
    · have hcz : ¬ (i:Int)<(l.length:Int):=by omega
      have hi:i=l.length:=by omega
      rw [hi,List.take_length] at hok hle
      have e:yy (ze (l.take i))=yy (ze l):=by rw [hi,List.take_length]
      rw [e]
      have hkind:=Lib.hid (show zg l=jo (ze l) by unfold zg; rw [if_pos hok])
      have hkc:=Zs (ze l)
      clear hi e hle
      generalize yy (ze l)=s at *
      rcases hkc with ⟨h0,hkn⟩ | ⟨h0,h1,hkn⟩ | ⟨h0,hkn⟩ | ⟨h0,hkn⟩
      · have HK:=Lib.hid hkn
        have hs:(s:Int)=0:=by omega
        clear hkn
        go_wp2
        go_returns
        exact ⟨by rw [hkind.out,HK.out]; rfl,rfl⟩
      · have HK:=Lib.hid hkn
        have hs1:((s:Int)==0)=false:=by simp; omega
        have hs3:((s:Int)==32768)=false:=by simp; omega
        have hs2:decide ((s:Int)<32768)=true:=by simp; omega
        clear hkn h0 h1
        go_wp2
        go_returns
        exact ⟨by rw [hkind.out,HK.out]; rfl,rfl⟩
      · have HK:=Lib.hid hkn
        have hs:(s:Int)=32768:=by omega
        clear hkn
        go_wp2
        go_returns
        exact ⟨by rw [hkind.out,HK.out]; rfl,rfl⟩
      · have HK:=Lib.hid hkn
        have hs1:((s:Int)==0)=false:=by simp; omega
        have hs3:((s:Int)==32768)=false:=by simp; omega
        have hs2:decide ((s:Int)<32768)=false:=by simp; omega
        clear hkn h0
        go_wp2
        go_returns
        exact ⟨by rw [hkind.out,HK.out]; rfl,rfl⟩
end Go.Proofs.YtfkcdnaghndgfaaGreatDoor
namespace Go.Proofs.YtfkcdnaghndgfaaGreatDoor
open Go.RowKit
def jn (l:List Int):Nat:=l.countP fun k=>decide (0<k)
def JE (l:List Int):Nat:=l.countP fun k=>decide (k=1)
def ye (l:List Int):Bool:=decide (zg l=1)||(decide (jn l=1)&&decide (JE l=1))
theorem Yn {l:List Int} {i:Nat} (h:i<l.length):jn (l.take (i+1))=jn (l.take i)+if 0<l[i] then 1 else 0:=by
 unfold jn; rw [take_snoc' l i h,List.countP_append]; simp [List.countP_cons]
theorem zdt {l:List Int} {i:Nat} (h:i<l.length):JE (l.take (i+1))=JE (l.take i)+if l[i]=1 then 1 else 0:=by
 unfold JE; rw [take_snoc' l i h,List.countP_append]; simp [List.countP_cons]
theorem XJ (l:List Int):jn l≤l.length:=List.countP_le_length
theorem zhi (l:List Int):JE l≤l.length:=List.countP_le_length
def ki (l:List Int):Int:=(l.filter fun k=>decide (0<k)).getLastD 0
theorem KV {l:List Int} {i:Nat} (h:i<l.length):ki (l.take (i+1))=if 0<l[i] then l[i] else ki (l.take i):=by
 unfold ki
 rw [take_snoc' l i h,List.filter_append]
 by_cases hp:0<l[i]
 · rw [if_pos hp,List.filter_cons_of_pos (by simpa using hp),List.filter_nil,List.getLastD_eq_getLast?]
   simp
 · rw [if_neg hp,List.filter_cons_of_neg (by simpa using hp),List.filter_nil,List.append_nil]
theorem zcg (l:List Int):ye l=(decide (zg l=1)||(decide (jn l=1)&&decide (ki l=1))):=by
 unfold ye
 by_cases hu:jn l=1
 · have hf:(l.filter fun k=>decide (0<k)).length=1:=by rw [← List.countP_eq_length_filter]; exact hu
   obtain ⟨x,hx⟩:=List.length_eq_one_iff.1 hf
   have hone:JE l=if x=1 then 1 else 0:=by
    have e:JE l=(l.filter fun k=>decide (0<k)).countP fun k=>decide (k=1):=by
     unfold JE
     rw [List.countP_filter]
     congr 1
     funext k
     by_cases h:k=1
     · simp [h]
     · simp [h]
    rw [e,hx]
    by_cases h:x=1<;>simp [h]
   have hl:ki l=x:=by unfold ki; rw [hx]; rfl
   rw [hl,hone]
   by_cases h:x=1<;>simp [h]
 · simp [hu]
set_option maxRecDepth 100000 in
set_option maxHeartbeats 1600000 in
theorem Qh (x:Option Addr) (cap:Nat) (l:List Int) (w:World) (hlen:l.length≤100000) (hI:IntsIn w x l.length l) :
 Calls Tryz.prog 113 #[.slice x l.length cap] w fun e w'=>e = .returned (.bool (ye l))∧w=w':=by
 have HK:=Lib.hid (kG x l.length cap l w (by omega) hI)
 have HI:=Lib.hid hI
 clear hI
 go_enter Tryz.func113,Tryz.ntmps113
 go_wp2
 go_loopg [3,4,9] l.length (fun g s3 s4 s9 wr => ∃ i,i≤l.length∧g=l.length-i∧s9 = .int .i64 (i:Nat)∧s3 = .int .i64 (jn (l.take i):Nat)∧s4 = .int .i64 (ki (l.take i))∧w=wr)
 case atStart=>exact ⟨0,by omega,rfl,rfl,rfl,rfl,rfl⟩
 case round =>
  obtain ⟨i,hi,rfl,rfl,rfl,rfl,rfl⟩:=hrel
  by_cases hc:i<l.length
  · have hcz:(i:Int)<(l.length:Int):=by omega
    obtain ⟨b,off,rfl,c,hb1,hb2⟩:=HI.out.cell i hc
    have hu:=Yn hc
    have hl:=KV hc
    have hul:=XJ (l.take i)
    rw [List.length_take] at hul
    have HU:=Lib.hid hu
    have HL:=Lib.hid hl
    clear hu hl
    generalize l[i]=y at *
    by_cases hy:0<y
    · have t1:decide (0<y)=true:=decide_eq_true hy
      go_wp2
      go_roundg (l.length-(i+1))
      case measure=>omega
      case rel =>
       refine ⟨i+1,by omega,rfl,by first | rfl | go_num,?_,?_,rfl⟩
       · rw [HU.out,if_pos hy]; first | rfl | go_num
       · rw [HL.out,if_pos hy]
    · have t1:decide (0<y)=false:=decide_eq_false hy
      go_wp2
      go_roundg (l.length-(i+1))
      case measure=>omega
      case rel =>
       refine ⟨i+1,by omega,rfl,by first | rfl | go_num,?_,?_,rfl⟩
       · rw [HU.out,if_neg (by omega)]; first | rfl | go_num
       · rw [HL.out,if_neg (by omega)]
  · have hcz : ¬ (i:Int)<(l.length:Int):=by omega
    have hil:i=l.length:=by omega
    subst hil
    rw [List.take_length]
    have hok:=Lib.hid (zcg l)
    have hul:=XJ l
    generalize jn l=u at *
    generalize ki l=y at *
    generalize zg l=kk at *
    by_cases h1:kk=1
    · have t1:((kk:Int)==1)=true:=by rw [h1]; rfl
      go_wp2_with fail
      refine HK.out.mono ?_
      rintro e w2 ⟨rfl,rfl⟩
      go_wp2
      go_returns
      exact ⟨by rw [hok.out]; simp [h1],rfl⟩
    · have t1:((kk:Int)==1)=false:=by simp; omega
      by_cases h2:u=1
      · have t2:((u:Int)==1)=true:=by rw [h2]; rfl
        by_cases h3:y=1
        · have t3:(y==1)=true:=by rw [h3]; rfl
          go_wp2_with fail
          refine HK.out.mono ?_
          rintro e w2 ⟨rfl,rfl⟩
          go_wp2
          go_returns
          exact ⟨by rw [hok.out]; simp [h2,h3],rfl⟩
        · have t3:(y==1)=false:=by simp [h3]
          go_wp2_with fail
          refine HK.out.mono ?_
          rintro e w2 ⟨rfl,rfl⟩
          go_wp2
          go_returns
          exact ⟨by rw [hok.out]; simp [h1,h3],rfl⟩
      · have t2:((u:Int)==1)=false:=by simp; omega
        go_wp2_with fail
        refine HK.out.mono ?_
        rintro e w2 ⟨rfl,rfl⟩
        go_wp2
        go_returns
        exact ⟨by rw [hok.out]; simp [h1,h2],rfl⟩
end Go.Proofs.YtfkcdnaghndgfaaGreatDoor
namespace Go.Proofs.YtfkcdnaghndgfaaGreatDoor
open Go.RowKit
theorem Za:(Tryz.prog.info? 5).map (fun i=>(i.zero,i.size,i.bytes))=some (some (.int .u8 0),1,1):=by kernel_rfl
structure WrAt (w:World) (b:Nat) (v:Value) (L:List Bool) (m:Nat):Prop where
 blk:Blk w b [v,.int .u64 (rest L m:Nat),.int .i64 (L.length-8*m:Nat)] 118
 row:Row w 5 1 v m (u8s (jV L m))
 le:8*m≤L.length
 far:v.ownBlock≠some b
def zU (b:Nat) (v:Value):List Nat:=b::v.ownBlock.toList
theorem WrAt.upd {w w':World} {b:Nat} {v:Value} {L:List Bool} {m:Nat} {fp:List Nat} (h:WrAt w b v L m) (hu:Upd fp w w') (hb:b∉fp) (hv : ∀ k,v.ownBlock=some k→k∉fp):WrAt w' b v L m :=
 ⟨h.blk.upd hu hb,h.row.upd hu hv,h.le,h.far⟩
def XU (w:World) (b:Nat) (v:Value) (L:List Bool) (e:Ending) (w':World):Prop :=
 e = .returned (.tuple #[]) ∧ ∃ v',WrAt w' b v' L (L.length/8)∧Upd (zU b v) w w'∧Later w v v'
def zcK (w:World) (b:Nat) (v:Value) (L:List Bool) (g:Nat) (wr:World):Prop :=
 ∃ m v',WrAt wr b v' L m∧g=L.length-8*m∧Upd (zU b v) w wr∧Later w v v'
theorem zbm (p X K n:Nat) (hp:p<2^n) (hX:X<4294967296) (hK:K≤32) (hn:n≤7) :
 bits BinOp.or IntKind.u64 (p:Int) (IntKind.u64.wrap (bits BinOp.and IntKind.u64 (IntKind.u64.wrap (X:Int)) (IntKind.u64.wrap (IntKind.u64.wrap (2^K)-1))*2^n))=((p+2^n*(X%2^K):Nat):Int):=by
 have hn2:2^n≤2^7:=Nat.pow_le_pow_right (by omega) hn
 have hK2:2^K≤2^32:=Nat.pow_le_pow_right (by omega) hK
 have hK1:1≤2^K:=Nat.one_le_two_pow
 have h1:IntKind.u64.wrap (X:Int)=(X:Int):=IntWalk.u64_in _ (by omega)
 have e2:(2:Int)^K=((2^K:Nat):Int):=by simp
 have e3:(2:Int)^n=((2^n:Nat):Int):=by simp
 rw [h1,e2,e3]
 have h2:IntKind.u64.wrap ((2^K:Nat):Int)=((2^K:Nat):Int):=IntWalk.u64_in _ (by omega)
 have h3:IntKind.u64.wrap (((2^K:Nat):Int)-1)=((2^K-1:Nat):Int):=by rw [IntWalk.u64_in _ (by omega)]; omega
 have hs:X%2^K<2^K:=Nat.mod_lt _ (by omega)
 have hm:(X &&& (2^K-1))=X%2^K:=Nat.and_two_pow_sub_one_eq_mod X K
 have hb:X%2^K*2^n≤2^32*2^7:=Nat.mul_le_mul (by omega) hn2
 rw [h2,h3,u64_and_nat _ _ (by omega) (by omega),hm,← Int.natCast_mul,IntWalk.u64_in _ (by omega),u64_or_nat _ _ (by omega) (by omega),← hm,zcR p X K n hp,hm]
theorem zbY {w0 w wa w1:World} {b g cap m N:Nat} {v v' x:Value} {L':List Bool} (hW':WrAt w b v' L' m) (hU:Upd (zU b v) w0 w) (hLt:Later w0 v v') (hc:8*(m+1)≤L'.length)
 (hwa:Upd [] w wa) (hgrow:wa.grownBy w1 v'.ownBlock) (hat:v'.ownBlock=some g∨g=N) (hN:w.heap.size≤N)
 (hown1:w1.ownsRow 0 5 1 (.slice (some ⟨g,0,none⟩) (m+1) cap) (m+1) (u8s (jV L' m)++[x])) (hx:x = .int .u8 (vC L' m:Nat)) :
 zcK w0 b v L' (L'.length-8*(m+1)) (((w1.setCell ⟨b,0,none⟩ (.slice (some ⟨g,0,none⟩) (m+1) cap)).setCell ⟨b,1,none⟩ (.int .u64 (((rest L' m:Nat):Int)/256))).setCell ⟨b,2,none⟩ (.int .i64 (((L'.length-8*m:Nat):Int)-8))):=by
 have hgb:(Value.slice (some ⟨g,0,none⟩) (m+1) cap).ownBlock≠some b:=by
  have hb:=hW'.blk.lt
  have hf:=hW'.far
  rcases hat with h | h
  · rw [h] at hf; exact hf
  · simp only [Value.ownBlock,ne_eq,Option.some.injEq]; omega
 have hBw:Blk w1 b _ _:=(hW'.blk.upd hwa (by simp)).grown hgrow hW'.far
 refine ⟨m+1,.slice (some ⟨g,0,none⟩) (m+1) cap,⟨?_,?_,hc,hgb⟩,rfl,?_,?_⟩
 · have h:=((hBw.set 0 (.slice (some ⟨g,0,none⟩) (m+1) cap)).set 1 (.int .u64 (((rest L' m:Nat):Int)/256))).set 2 (.int .i64 (((L'.length-8*m:Nat):Int)-8))
   have e1:(((rest L' m:Nat):Int)/256)=((rest L' (m+1):Nat):Int):=by rw [zdB _ _ hc]; simp
   have e2:(((L'.length-8*m:Nat):Int)-8)=((L'.length-8*(m+1):Nat):Int):=by omega
   rw [← e1,← e2]
   exact h
 · rw [QY,zf1,← hx]
   exact (((Row.of_owns hown1).setFar _ hgb).setFar _ hgb).setFar _ hgb
 · have hU1:Upd (zU b v) w0 w1:=(hU.then (hwa.mono (by simp))).grown hgrow (fun k hk=>by
    rcases hLt with h | ⟨j,h,hj⟩
    · exact .inl (by simp [zU,← h,hk])
    · rw [h] at hk; cases hk; exact .inr hj)
   exact ((hU1.setCell (.inl (by simp [zU])) _).setCell (.inl (by simp [zU])) _).setCell (.inl (by simp [zU])) _
 · rcases hat with h | h
   · rcases hLt with h' | ⟨j,h',hj⟩
     · exact .inl (by rw [← h',h]; rfl)
     · exact .inr ⟨j,by rw [← h',h]; rfl,hj⟩
   · exact .inr ⟨g,rfl,by have:=hU.size; omega⟩
set_option maxRecDepth 100000 in
set_option maxHeartbeats 3200000 in
theorem yo (b X:Nat) (x k:Int) (K:Nat) (w:World) (v:Value) (L:List Bool) (hx:x=(X:Nat)) (hX:X<4294967296) (hW:WrAt w b v L (L.length/8)) (hL:L.length≤1099511627776)
 (hK32:K≤32) (hK:Hid ((K:Int)=max 0 (min k 32))) :
 Calls Tryz.prog 120 #[.pointer (some ⟨b,0,none⟩),.int .u32 x,.int .i64 k] w (XU w b v (L++low K X)):=by
 subst hx
 obtain ⟨i0,hi,hz0,hz1,hz2⟩:=info_parts Za
 have hA:=hW.blk.all
 have fA:=hW.blk.frz
 have hle:=hW.le
 have hn7:L.length-8*(L.length/8)≤7:=by omega
 have hnn:(0:Int)≤((L.length-8*(L.length/8):Nat):Int):=by omega
 have hK0:(0:Int)≤(K:Int):=by omega
 have hst:=Lib.hid (zbm (rest L (L.length/8)) X K (L.length-8*(L.length/8)) (zcZ L _) hX hK32 hn7)
 have hre:rest L (L.length/8)+2^(L.length-8*(L.length/8))*(X%2^K)=rest (L++low K X) (L.length/8):=by rw [za8 _ _ _ hle,KY]
 rw [hre] at hst
 clear hre
 go_enter Tryz.func120,Tryz.ntmps120
 go_upto_region 1 with fail
 go_cut [2] (fun s2 wx=>s2 = .int .i64 (K:Nat)∧wx=w)
 case first =>
  go_wp2
  all_goals go_meet
  all_goals (refine ⟨?_,rfl⟩; first | (rw [hK.out]; done) | (rw [hK.out]; congr 1; omega))
 case rest =>
  obtain ⟨rfl,rfl⟩:=hcut
  go_upto_region 2 with fail
  go_still_tail 18,(by kernel_rfl)
  rw [hst.out]
  go_wp2
  have hLK:Hid ((L++low K X).length=L.length+K):=Lib.hid (by rw [List.length_append,zk])
  have hlo:Hid (jV (L++low K X) (L.length/8)=jV L (L.length/8)):=Lib.hid (Zu _ _ _ hle)
  have hub':(L++low K X).length≤2000000000000:=by rw [List.length_append,zk]; omega
  generalize L++low K X=L' at *
  go_loopg [] (L'.length-8*(L.length/8)) (fun g wr=>zcK wc b v L' g wr)
  case atStart =>
   refine ⟨L.length/8,v,⟨?_,?_,by rw [hLK.out]; omega,hW.far⟩,rfl,?_,.refl _ _⟩
   · have h:=(hW.blk.set 1 (.int .u64 (rest L' (L.length/8):Nat))).set 2 (.int .i64 (((L.length-8*(L.length/8):Nat):Int)+(K:Int)))
     have e:(((L.length-8*(L.length/8):Nat):Int)+(K:Int))=((L'.length-8*(L.length/8):Nat):Int):=by
      rw [hLK.out]; omega
     rw [← e]
     exact h
   · rw [hlo.out]
     exact (((hW.row).setFar _ hW.far).setFar _ hW.far).drew
   · exact (((Upd.refl _ _).setCell (.inl (by simp [zU])) _).setCell (.inl (by simp [zU])) _).drew
  case round =>
   obtain ⟨m,v',hW',rfl,hU,hLt⟩:=hrel
   clear hA fA hst hnn hn7 hlo hLK
   have hA:=hW'.blk.all
   have fA:=hW'.blk.frz
   by_cases hc:8≤L'.length-8*m
   · have hcz:(8:Int)≤((L'.length-8*m:Nat):Int):=by omega
     have hub:((L'.length-8*m:Nat):Int)≤2000000000000:=by omega
     have hbw:=hW'.blk.lt
     have hfar:=hW'.far
     have hrow:=hW'.row
     have hmm:m≤2000000000000:=by omega
     go_wp2_with fail
     go_region_law ((refine step_append_lies _ (by rfl) _ _ _ (by rfl) 0 5 i0 _ 1 1 Tryz.underlying75 hi hz0 hz1 hz2 rfl (by omega) v' m _ (by rfl) (Row.alloc (Row.drew hrow) _) ⟨wr.heap.size,0,none⟩ 1 1 [_] (by rfl) (by rfl) (World.news_of_block (cs := #[_]) (t:=5) (fr:=(0,0)) (heap_alloc_new _ _)) (by simp [Value.oneCell']) (by omega) (by unfold maxLen; omega) (by omega) (by simp) (wr.heap.size+1) (by simp) ?_; intro g cap w1 hown1 hgrow hat hlt; have hBw:=(hW'.blk.drew.alloc _).grown hgrow hfar; have kA:=hBw.all; have e0:=hBw.frz 0; have e1:=hBw.frz 1; have e2:=hBw.frz 2))
     all_goals go_wp2
     all_goals go_roundg (L'.length-8*(m+1))
     all_goals first | omega | (refine zbY hW' hU hLt (by omega) (by first | exact ((Upd.refl _ _).drew.alloc _) | exact ((Upd.refl _ _).alloc _).drew) hgrow hat (by omega) hown1 ?_; rw [zcp _ _ (by omega),IntKind.wrap_u8]; simp)
   · have hcz:((L'.length-8*m:Nat):Int)<8:=by omega
     go_wp2
     go_end0
     have hm:m=L'.length/8:=by have:=hW'.le; omega
     exact ⟨rfl,v',hm▸hW',hU,hLt⟩
end Go.Proofs.YtfkcdnaghndgfaaGreatDoor
