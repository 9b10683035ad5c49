/- Package zip: sizes, and whether two spans meet: walks. -/
import Derived.Test.YtigjingielnaoaaGreatDoorQAZ
import Derived.Test.YtigjingielnaoaaGreatDoorQBD
import Derived.Test.YtigjingielnaoaaGreatDoorQBI
import Derived.Deep.RegionHeld3
import Derived.Test.YtigjingielnaoaaGreatDoorQAY
set_option linter.unusedVariables false
set_option linter.unusedSimpArgs false
set_option linter.unusedSectionVars false
namespace Go.Proofs.YtigjingielnaoaaGreatDoor
open Go.RowKit
set_option maxRecDepth 100000 in
set_option maxHeartbeats 3200000 in
theorem Ws (l:List RecD) (v:Value) (w:World) (h:kG w v l) (hl : ∀ r∈l,r.Fits) (hn:l.length≤100000):Calls Tryz.prog 117 #[v] w fun e w'=>e = .returned (.int .i64 (qh l:Nat))∧Upd [] w w':=by
 have hd:=vF l (fun r hr=>(hl r hr).p)
 obtain ⟨a,cap,rfl,h⟩:=h
 have H:=Lib.hid h
 have HL:=Lib.hid hl
 have HLE:=Lib.hid (fun i=>vF (l.take i) (fun r hr=>(HL.out r (List.mem_of_mem_take hr)).p))
 clear h hl
 obtain ⟨n,hnn⟩ : ∃ n,l.length=n:=⟨_,rfl⟩
 rw [hnn] at hn hd ⊢
 have HN:=Lib.hid hnn
 clear hnn
 go_enter Tryz.func117,Tryz.ntmps117
 go_wp2
 go_loopg [2,7] n (fun gg s2 s7 wr => ∃ i,i≤n∧gg=n-i∧s7 = .int .i64 (i:Nat)∧s2 = .int .i64 (qh (l.take i):Nat)∧qh (l.take i)≤i*1047∧Hid (Upd [] w wr))
 case atStart=>exact ⟨0,Nat.zero_le _,rfl,rfl,rfl,Nat.zero_le _,Lib.hid (Upd.refl _ _)⟩
 case round =>
  obtain ⟨i,hin,rfl,rfl,rfl,hdi,HU⟩:=hrel
  by_cases hc:i<n
  · have hcz:(i:Int)<(n:Int):=by omega
    have hil:i<l.length:=by rw [HN.out]; exact hc
    obtain ⟨b1,o1,rfl,g1⟩:=H.out i hil
    obtain ⟨r,hr⟩ : ∃ r,r=l[i]:=⟨_,rfl⟩
    rw [← hr] at g1
    have hf:r.Fits:=HL.out r (by rw [hr]; exact List.getElem_mem hil)
    have HSZ:=Lib.hid (fun z=>zaB r z hf)
    have HD:Hid (qh (l.take (i+1))=qh (l.take i)+(46+(zF r.k r.p).length)):=Lib.hid (by rw [List.take_succ_eq_append_getElem hil,Xe,← hr])
    have hnl:(zF r.k r.p).length≤1001:=by have:=xV r.k r.p; have:=hf.p; omega
    have HCA:=Lib.hid (fun f x h=>HU.out.keep (g1 f x h))
    clear g1 hf hr
    generalize qh (l.take i)=di at *
    obtain ⟨p,m,sum,l2,wh,k,md,t,pos⟩:=r
    unfold RecD.v at HSZ
    unfold RecD.cells at HCA
    dsimp only at HSZ HCA HD hnl
    generalize (zF k p).length=nl at *
    have hw1:IntKind.i64.wrap ((i:Int)+1)=(i:Int)+1:=IntWalk.i64_in _ (by omega)
    have hw2:IntKind.i64.wrap ((di:Int)+((46+nl:Nat):Int))=(di:Int)+((46+nl:Nat):Int):=IntWalk.i64_in _ (by omega)
    have c0:=HCA.out 0 (.string p) rfl
    have c1:=HCA.out 1 (.int .i64 m) rfl
    have c2:=HCA.out 2 (.int .u32 (sum:Nat)) rfl
    have c3:=HCA.out 3 (.int .i64 l2) rfl
    have c4:=HCA.out 4 (.int .i64 wh) rfl
    have c5:=HCA.out 5 (.int .i64 k) rfl
    have c6:=HCA.out 6 (.int .i64 md) rfl
    have c7:=HCA.out 7 (.int .u32 (t:Nat)) rfl
    have c8:=HCA.out 8 (.int .i64 pos) rfl
    simp only [Nat.add_zero] at c0
    have HB:=Lib.hid (Blk.new wr [.string p,.int .i64 m,.int .u32 (sum:Nat),.int .i64 l2,.int .i64 wh,.int .i64 k,.int .i64 md,.int .u32 (t:Nat),.int .i64 pos] 52)
    have HU1:=Lib.hid (HU.out.alloc (.cells #[.string p,.int .i64 m,.int .u32 (sum:Nat),.int .i64 l2,.int .i64 wh,.int .i64 k,.int .i64 md,.int .u32 (t:Nat),.int .i64 pos] 52))
    go_upto_region 4 with fail
    change Code.wp _ _ _ _ (wr.alloc (.cells #[.string p,.int .i64 m,.int .u32 (sum:Nat),.int .i64 l2,.int .i64 wh,.int .i64 k,.int .i64 md,.int .u32 (t:Nat),.int .i64 pos] 52))
    generalize wr.alloc (.cells #[.string p,.int .i64 m,.int .u32 (sum:Nat),.int .i64 l2,.int .i64 wh,.int .i64 k,.int .i64 md,.int .u32 (t:Nat),.int .i64 pos] 52)=w2 at *
    generalize wr.heap.size=q at *
    clear c0 c1 c2 c3 c4 c5 c6 c7 c8 HCA HU
    have kA:=HB.out.all
    go_wp2_with fail
    refine (HSZ.out _).mono ?_
    rintro e w3 ⟨rfl,hu3⟩
    have HU3:=Lib.hid (HU1.out.then hu3)
    clear kA hu3 HB HU1
    go_wp2
    go_roundg (n-(i+1))
    · exact ⟨i+1,by omega,rfl,by first | rfl | go_num,by rw [HD.out]; first | rfl | go_num,by rw [HD.out]; omega,HU3⟩
    · omega
  · have hcz : ¬ (i:Int)<(n:Int):=by omega
    obtain rfl:i=n:=by omega
    have HT:Hid (l.take i=l):=Lib.hid (List.take_of_length_le (by rw [HN.out]; omega))
    rw [HT.out]
    go_wp2
    go_ret
    exact ⟨rfl,HU.out⟩
theorem Zo {w w':World} {v:Value} {l:List RecD} (h:kG w v l) (hu:Upd [] w w'):kG w' v l:=by
 obtain ⟨a,cap,e,h⟩:=h
 exact ⟨a,cap,e,fun i hi=>by
  obtain ⟨b,off,e2,h2⟩:=h i hi
  exact ⟨b,off,e2,fun f u hf=>hu.keep (h2 f u hf)⟩⟩
set_option maxRecDepth 100000 in
set_option maxHeartbeats 3200000 in
theorem zaU (b:Nat) (x o:Int×Int) (w:World) (h:Blk w b [.int .i64 x.1,.int .i64 x.2] 126) :
 Calls Tryz.prog 119 #[.agg #[.int .i64 o.1,.int .i64 o.2],.pointer (some ⟨b,0,none⟩)] w fun e w'=>e = .returned (.bool (yK x o))∧Upd [] w w':=by
 obtain ⟨x1,x2⟩:=x
 obtain ⟨o1,o2⟩:=o
 dsimp only at h ⊢
 have HV:Hid (yK (x1,x2) (o1,o2)=(decide (o1<x2)&&decide (x1<o2))):=Lib.hid rfl
 generalize yK (x1,x2) (o1,o2)=B at *
 have HA:=Lib.hid (h.alloc (.cells #[.int .i64 o1,.int .i64 o2] 126))
 have HO:=Lib.hid (Blk.new w [.int .i64 o1,.int .i64 o2] 126)
 have HU:=Lib.hid ((Upd.refl [] w).alloc (.cells #[.int .i64 o1,.int .i64 o2] 126))
 clear h
 go_enter Tryz.func119,Tryz.ntmps119
 go_upto_region 1 with fail
 change Code.wp _ _ _ _ (w.alloc (.cells #[.int .i64 o1,.int .i64 o2] 126))
 generalize w.alloc (.cells #[.int .i64 o1,.int .i64 o2] 126)=w1 at *
 generalize w.heap.size=q at *
 have cA:=HA.out.all
 have dA:=HO.out.all
 by_cases h1:o1<x2
 · have t1:decide (o1<x2)=true:=decide_eq_true h1
   by_cases h2:x1<o2
   · have t2:decide (x1<o2)=true:=decide_eq_true h2
     go_wp2
     go_returns
     exact ⟨by rw [HV.out,t1,t2]; rfl,HU.out⟩
   · have t2:decide (x1<o2)=false:=decide_eq_false h2
     go_wp2
     go_returns
     exact ⟨by rw [HV.out,t1,t2]; rfl,HU.out⟩
 · have t1:decide (o1<x2)=false:=decide_eq_false h1
   go_wp2
   go_returns
   exact ⟨by rw [HV.out,t1]; rfl,HU.out⟩
def zem (w:World) (v:Value) (l:List (Int×Int)):Prop := ∃ a cap,v = .slice a l.length cap∧l.length≤cap ∧ ∀ i,(hi:i<l.length) → ∃ b off,a=some ⟨b,off,none⟩∧w.cell? ⟨b,off+i*2,none⟩=some (.int .i64 l[i].1)∧w.cell? ⟨b,off+i*2+1,none⟩=some (.int .i64 l[i].2)
theorem Row.spAt {w:World} {v:Value} {l:List (Int×Int)} (h:Row w 126 2 v l.length (spC l)):zem w v l:=by
 obtain ⟨a,cap,rfl⟩:=h.form
 rcases Nat.eq_zero_or_pos l.length with h0 | h0
 · refine ⟨a,cap,rfl,by omega,fun i hi=>by omega⟩
 · obtain ⟨g,cap',hv,_,hc⟩:=h.form' h0
   simp only [Value.slice.injEq] at hv
   obtain ⟨rfl,_,rfl⟩:=hv
   exact ⟨_,_,rfl,hc,fun i hi=>⟨g,0,rfl,by rw [Nat.zero_add]; exact h.cell (i*2) (WY l i hi).1,by rw [Nat.zero_add]; exact h.cell (i*2+1) (WY l i hi).2⟩⟩
set_option maxRecDepth 100000 in
set_option maxHeartbeats 3200000 in
theorem YI (l:List (Int×Int)) (v:Value) (b:Nat) (x:Int×Int) (w:World) (hv:zem w v l) (hl:l.length≤1000000) (hb:Blk w b [.int .i64 x.1,.int .i64 x.2] 126) :
 Calls Tryz.prog 168 #[v,.func (.func 119) #[] #[.pointer (some ⟨b,0,none⟩)]] w fun e w'=>e = .returned (.int .i64 (VO (yK x) l))∧Upd [] w w':=by
 obtain ⟨a1,cap1,rfl,hcap1,hc1⟩:=hv
 have HC1:=Lib.hid hc1
 have HFF:=Lib.hid (fun o z (hz:Upd [] w z)=>zaU b x o z (hb.upd hz (by simp)))
 have HY:=Lib.hid (@zci _ (yK x) l)
 have HNO:=Lib.hid (@zd7 _ (yK x) l)
 generalize yK x=pr at *
 obtain ⟨n,hn⟩ : ∃ n,l.length=n:=⟨_,rfl⟩
 have HN1:=Lib.hid hn
 rw [hn] at hcap1 hl ⊢
 clear hc1 hn hb
 go_enter Tryz.func168,Tryz.ntmps168
 go_wp2
 go_loopg [8] n (fun gg s8 wr => ∃ i,i≤n∧gg=n-i∧s8 = .int .i64 (i:Nat)∧Hid (∀ j,(hj:j<l.length)→j<i→pr l[j]=false)∧Hid (Upd [] w wr))
 case atStart=>exact ⟨0,Nat.zero_le _,rfl,rfl,Lib.hid (fun j _ h=>by omega),Lib.hid (Upd.refl _ _)⟩
 case round =>
  obtain ⟨i,hin,rfl,rfl,HT,HU⟩:=hrel
  by_cases hc:i<n
  · have hcz:(i:Int)<(n:Int):=by omega
    have hi1:i<l.length:=by rw [HN1.out]; exact hc
    obtain ⟨b1,o1,rfl,d1,d2⟩:=HC1.out i hi1
    have c1:=HU.out.keep d1
    have c2:=HU.out.keep d2
    have HX:=Lib.hid (fun z (hz:Upd [] wr z)=>HFF.out l[i] z (HU.out.then hz))
    have HYI:=Lib.hid (fun h=>HY.out i hi1 h HT.out)
    have HTI:Hid (pr l[i]=false → ∀ j,(hj:j<l.length)→j<i+1→pr l[j]=false):=Lib.hid (fun h j hj hlt=>by
     rcases Nat.lt_or_ge j i with hji | hji
     · exact HT.out j hj hji
     · have:j=i:=by omega
       subst this; exact h)
    have hw1:IntKind.i64.wrap ((i:Int)+1)=((i+1:Nat):Int):=by rw [IntWalk.i64_in _ (by omega)]; rfl
    generalize l[i]=y at *
    obtain ⟨B,hB⟩ : ∃ B,pr y=B:=⟨_,rfl⟩
    rw [hB] at HX HYI HTI
    clear hB d1 d2
    obtain ⟨y1,y2⟩:=y
    dsimp only at c1 c2 HX
    cases B with
    | true =>
      have HV:=Lib.hid (HYI.out rfl)
      clear HYI HTI
      go_wp2_with fail
      refine (HX.out _ (Upd.refl _ _)).mono ?_
      rintro e w2 ⟨rfl,hu2⟩
      go_wp2
      go_ret
      exact ⟨by rw [HV.out]; rfl,HU.out.then hu2⟩
    | false =>
      have HT2:=Lib.hid (HTI.out rfl)
      clear HYI HTI
      go_wp2_with fail
      refine (HX.out _ (Upd.refl _ _)).mono ?_
      rintro e w2 ⟨rfl,hu2⟩
      have HU2:=Lib.hid (HU.out.then hu2)
      clear hu2
      go_wp2
      go_roundg (n-(i+1))
      · exact ⟨i+1,by omega,rfl,by first | rfl | go_num,HT2,HU2⟩
      · omega
  · have hcz : ¬ (i:Int)<(n:Int):=by omega
    obtain rfl:i=n:=by omega
    have HV:=Lib.hid (HNO.out (fun j hj=>HT.out j hj (by rw [← HN1.out]; exact hj)))
    go_wp2
    go_ret
    exact ⟨by rw [HV.out]; rfl,HU.out⟩
theorem Zs (l:List (Int×Int)) (v:Value) (b:Nat) (x:Int×Int) (w:World) (hv:zem w v l) (hl:l.length≤1000000) (hb:Blk w b [.int .i64 x.1,.int .i64 x.2] 126) :
 Calls Tryz.prog 120 #[v,.func (.func 119) #[] #[.pointer (some ⟨b,0,none⟩)]] w fun e w'=>e = .returned (.bool (l.any (yK x)))∧Upd [] w w':=by
 have HI:=Lib.hid (YI l v b x w hv hl hb)
 rw [← zcZ]
 generalize VO (yK x) l=z at *
 clear hl hv hb
 go_enter Tryz.func120,Tryz.ntmps120
 go_wp2_with fail
 refine HI.out.mono ?_
 rintro e w2 ⟨rfl,hu2⟩
 go_wp2
 go_ret
 exact ⟨rfl,hu2⟩
end Go.Proofs.YtigjingielnaoaaGreatDoor
namespace Go.Proofs.YtigjingielnaoaaGreatDoor
open Go.RowKit
theorem QF {a b:ByteArray} (h:a≠b):(a.toList==b.toList)=false:=by
 rw [beq_eq_false_iff_ne]
 intro h2
 rw [ByteArray.toList_eq,ByteArray.toList_eq] at h2
 exact h (ByteArray.ext (Array.ext' h2))
theorem zew (p p2:ByteArray) (m m2 k k2 pos pos2 l wh md:Int) (sum t t2:Nat) (w:World) :
 (binOp .eql 52 (.agg #[.string p,.int .i64 m,.int .u32 (sum:Nat),.int .i64 l,.int .i64 wh,.int .i64 k,.int .i64 md,.int .u32 (t:Nat),.int .i64 pos]) (.agg #[.string p2,.int .i64 m2,.int .u32 (sum:Nat),.int .i64 l,.int .i64 wh,.int .i64 k2,.int .i64 md,.int .u32 (t2:Nat),.int .i64 pos2])).run Tryz.prog w = .ok (.bool (decide (p=p2∧m=m2∧k=k2∧t=t2∧pos=pos2))) w:=by
 by_cases h0:p=p2
 · subst h0
   by_cases h1:m=m2
   · subst h1
     by_cases h2:k=k2
     · subst h2
       by_cases h3:t=t2
       · subst h3
         by_cases h4:pos=pos2
         · subst h4
           go_simp
         · have e:(pos==pos2)=false:=by simp [h4]
           have e2:decide (pos=pos2)=false:=decide_eq_false h4
           go_simp
       · have e:((t:Int)==(t2:Int))=false:=by simp; omega
         have e2:decide (t=t2)=false:=decide_eq_false h3
         go_simp
     · have e:(k==k2)=false:=by simp [h2]
       go_simp
   · have e:(m==m2)=false:=by simp [h1]
     go_simp
 · have e:=QF h0
   go_simp
set_option maxRecDepth 100000 in
set_option maxHeartbeats 6400000 in
theorem zbN (h r:RecD) (w:World) :
 Calls Tryz.prog 165 #[h.v,r.v] w fun e w'=>e = .returned (.bool (ky h r))∧Upd [] w w':=by
 obtain ⟨p,m,sum,l,wh,k,md,t,pos⟩:=h
 obtain ⟨p2,m2,sum2,l2,wh2,k2,md2,t2,pos2⟩:=r
 unfold RecD.v ky
 dsimp only
 have HQ:=Lib.hid (fun w=>zew p p2 m m2 k k2 pos pos2 l2 wh2 md2 sum2 t t2 w)
 generalize decide (p=p2∧m=m2∧k=k2∧t=t2∧pos=pos2)=B at *
 have HA:=Lib.hid ((Blk.new w [.string p,.int .i64 m,.int .u32 (sum:Nat),.int .i64 l,.int .i64 wh,.int .i64 k,.int .i64 md,.int .u32 (t:Nat),.int .i64 pos] 52).alloc (.cells #[.string p2,.int .i64 m2,.int .u32 (sum2:Nat),.int .i64 l2,.int .i64 wh2,.int .i64 k2,.int .i64 md2,.int .u32 (t2:Nat),.int .i64 pos2] 52))
 have HB:Hid (Blk ((w.alloc (.cells #[.string p,.int .i64 m,.int .u32 (sum:Nat),.int .i64 l,.int .i64 wh,.int .i64 k,.int .i64 md,.int .u32 (t:Nat),.int .i64 pos] 52)).alloc (.cells #[.string p2,.int .i64 m2,.int .u32 (sum2:Nat),.int .i64 l2,.int .i64 wh2,.int .i64 k2,.int .i64 md2,.int .u32 (t2:Nat),.int .i64 pos2] 52)) (w.heap.size+1) [.string p2,.int .i64 m2,.int .u32 (sum2:Nat),.int .i64 l2,.int .i64 wh2,.int .i64 k2,.int .i64 md2,.int .u32 (t2:Nat),.int .i64 pos2] 52):=Lib.hid (by
  have h:=Blk.new (w.alloc (.cells #[.string p,.int .i64 m,.int .u32 (sum:Nat),.int .i64 l,.int .i64 wh,.int .i64 k,.int .i64 md,.int .u32 (t:Nat),.int .i64 pos] 52)) [.string p2,.int .i64 m2,.int .u32 (sum2:Nat),.int .i64 l2,.int .i64 wh2,.int .i64 k2,.int .i64 md2,.int .u32 (t2:Nat),.int .i64 pos2] 52
  simpa using h)
 have HU:=Lib.hid (((Upd.refl [] w).alloc (.cells #[.string p,.int .i64 m,.int .u32 (sum:Nat),.int .i64 l,.int .i64 wh,.int .i64 k,.int .i64 md,.int .u32 (t:Nat),.int .i64 pos] 52)).alloc (.cells #[.string p2,.int .i64 m2,.int .u32 (sum2:Nat),.int .i64 l2,.int .i64 wh2,.int .i64 k2,.int .i64 md2,.int .u32 (t2:Nat),.int .i64 pos2] 52))
 go_enter Tryz.func165,Tryz.ntmps165
 go_upto_region 1 with fail
 change Code.wp _ _ _ _ ((w.alloc (.cells #[.string p,.int .i64 m,.int .u32 (sum:Nat),.int .i64 l,.int .i64 wh,.int .i64 k,.int .i64 md,.int .u32 (t:Nat),.int .i64 pos] 52)).alloc (.cells #[.string p2,.int .i64 m2,.int .u32 (sum2:Nat),.int .i64 l2,.int .i64 wh2,.int .i64 k2,.int .i64 md2,.int .u32 (t2:Nat),.int .i64 pos2] 52))
 generalize (w.alloc (.cells #[.string p,.int .i64 m,.int .u32 (sum:Nat),.int .i64 l,.int .i64 wh,.int .i64 k,.int .i64 md,.int .u32 (t:Nat),.int .i64 pos] 52)).alloc (.cells #[.string p2,.int .i64 m2,.int .u32 (sum2:Nat),.int .i64 l2,.int .i64 wh2,.int .i64 k2,.int .i64 md2,.int .u32 (t2:Nat),.int .i64 pos2] 52)=w1 at *
 obtain ⟨b,hb⟩ : ∃ b,w.heap.size=b:=⟨_,rfl⟩
 obtain ⟨c,hc⟩ : ∃ c,b+1=c:=⟨_,rfl⟩
 rw [hb] at HA HB ⊢
 rw [hc] at HB ⊢
 have hbc:b≠c:=by omega
 have hcb:c≠b:=by omega
 have HW:=Lib.hid (show w.heap.size≤b by omega)
 clear hb hc
 have rA:=HB.out.all
 go_cut [4] (fun s4 wx=>s4 = .bool false∧Blk wx b [.string p,.int .i64 m,.int .u32 (sum2:Nat),.int .i64 l2,.int .i64 wh2,.int .i64 k,.int .i64 md2,.int .u32 (t:Nat),.int .i64 pos] 52∧Blk wx c [.string p2,.int .i64 m2,.int .u32 (sum2:Nat),.int .i64 l2,.int .i64 wh2,.int .i64 k2,.int .i64 md2,.int .u32 (t2:Nat),.int .i64 pos2] 52∧Upd [] w wx)
 case first =>
  have HA0:=Lib.hid HA.out.drew
  have HB0:=Lib.hid HB.out.drew
  have HU0:=Lib.hid HU.out.drew
  refine wp_region_held_drew (S:=fun w'=>Blk w' c [.string p2,.int .i64 m2,.int .u32 (sum2:Nat),.int .i64 l2,.int .i64 wh2,.int .i64 k2,.int .i64 md2,.int .u32 (t2:Nat),.int .i64 pos2] 52) (by kernel_rfl) HB.out.drew (fun hHeld=>hdN ?_)
  generalize w1.drew=W0 at *
  clear HA HB HU rA
  refine hdT 0 (some 5) ?_; refine hdT 1 (some 6) ?_ (hy:=by intro w0 hSw; have q0:=hSw.cell 6 rfl; go_simp; try with_reducible rfl)
  refine hdT 2 (some 7) ?_; refine hdT 3 (some 8) ?_ (hy:=by intro w0 hSw; have q0:=hSw.cell 2 rfl; go_simp; try with_reducible rfl)
  refine hdT 4 (some 9) ?_; refine hdT 5 (some 10) ?_ (hy:=by intro w0 hSw; have q0:=hSw.cell 3 rfl; go_simp; try with_reducible rfl)
  refine hdT 6 (some 11) ?_; refine hdT 7 (some 12) ?_ (hy:=by intro w0 hSw; have q0:=hSw.cell 4 rfl; go_simp; try with_reducible rfl)
  refine hdT 8 (some 13) ?_
  refine hdO 9 (fun K hK=>?_)
  have kc:=HA0.out.cell 6 rfl
  have kf:=HA0.out.frz 6
  go_simp
  go_wp2
  refine hK.out _ _ (HB0.out.setFar (a:=⟨b,6,none⟩) _ hcb) (fun hHeld=>hdN ?_)
  clear hK K
  have HA1:=Lib.hid (HA0.out.set 6 (.int .i64 md2))
  have HB1:=Lib.hid hHeld
  have HU1:=Lib.hid (HU0.out.setCell (p:=⟨b,6,none⟩) (.inr HW.out) (.int .i64 md2))
  generalize W0.setCell ⟨b,6,none⟩ (.int .i64 md2)=W1 at *
  clear kc kf HA0 HB0 HU0
  refine hdT 10 (some 14) ?_
  refine hdO 11 (fun K hK=>?_)
  have kc:=HA1.out.cell 2 rfl
  have kf:=HA1.out.frz 2
  go_simp
  go_wp2
  refine hK.out _ _ (HB1.out.setFar (a:=⟨b,2,none⟩) _ hcb) (fun hHeld=>hdN ?_)
  clear hK K
  have HA2:=Lib.hid (HA1.out.set 2 (.int .u32 (sum2:Nat)))
  have HB2:=Lib.hid hHeld
  have HU2:=Lib.hid (HU1.out.setCell (p:=⟨b,2,none⟩) (.inr HW.out) (.int .u32 (sum2:Nat)))
  generalize W1.setCell ⟨b,2,none⟩ (.int .u32 (sum2:Nat))=W2 at *
  clear kc kf HA1 HB1 HU1
  refine hdT 12 (some 15) ?_
  refine hdO 13 (fun K hK=>?_)
  have kc:=HA2.out.cell 3 rfl
  have kf:=HA2.out.frz 3
  go_simp
  go_wp2
  refine hK.out _ _ (HB2.out.setFar (a:=⟨b,3,none⟩) _ hcb) (fun hHeld=>hdN ?_)
  clear hK K
  have HA3:=Lib.hid (HA2.out.set 3 (.int .i64 l2))
  have HB3:=Lib.hid hHeld
  have HU3:=Lib.hid (HU2.out.setCell (p:=⟨b,3,none⟩) (.inr HW.out) (.int .i64 l2))
  generalize W2.setCell ⟨b,3,none⟩ (.int .i64 l2)=W3 at *
  clear kc kf HA2 HB2 HU2
  refine hdT 14 (some 16) ?_
  refine hdO 15 (fun K hK=>?_)
  have kc:=HA3.out.cell 4 rfl
  have kf:=HA3.out.frz 4
  go_simp
  go_wp2
  refine hK.out _ _ (HB3.out.setFar (a:=⟨b,4,none⟩) _ hcb) (fun hHeld=>hdN ?_)
  clear hK K
  have HA4:=Lib.hid (HA3.out.set 4 (.int .i64 wh2))
  have HB4:=Lib.hid hHeld
  have HU4:=Lib.hid (HU3.out.setCell (p:=⟨b,4,none⟩) (.inr HW.out) (.int .i64 wh2))
  generalize W3.setCell ⟨b,4,none⟩ (.int .i64 wh2)=W4 at *
  clear kc kf HA3 HB3 HU3
  refine wpAnyH_done (by kernel_rfl) ?_ 0
  go_wp2
  go_meet
  exact ⟨rfl,HA4.out,HB4.out,HU4.out⟩
 case rest =>
  obtain ⟨rfl,hA,hB,hU⟩:=hcut
  have HUF:=Lib.hid hU
  have aA:=hA.all
  have bA:=hB.all
  have HQ2:=HQ.out
  clear hA hB hU HA HB HU rA
  go_wp2
  go_returns
  exact ⟨rfl,HUF.out⟩
end Go.Proofs.YtigjingielnaoaaGreatDoor
