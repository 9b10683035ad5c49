/- Package swingleref23: Live: its walk. -/
import Derived.Test.YtigjingielnaoaaGreatDoorQBJ
import Derived.Test.YtigjingielnaoaaGreatDoorREnD
import Derived.Test.YtigjingielnaoaaGreatDoorQBM
import Derived.Test.YtigjingielnaoaaGreatDoorQAZ
import Derived.Test.YtigjingielnaoaaGreatDoorQBO
import Derived.Test.YtigjingielnaoaaGreatDoorQBI
import Derived.Test.YtigjingielnaoaaGreatDoorQAL
import Derived.Deep.QuietTactic
import Derived.BigQuiet
import Derived.Sort.QuietIn
import Derived.Stop.RegionWithIn
import Derived.Test.YtigjingielnaoaaGreatDoorQAB
set_option linter.unusedVariables false
set_option linter.unusedSimpArgs false
set_option linter.unusedSectionVars false
namespace Go.Proofs.YtigjingielnaoaaGreatDoor
open Go.RowKit
set_option maxRecDepth 100000 in
set_option maxHeartbeats 6400000 in
theorem KS (s:ByteArray) (l:List RecD) (v:Value) (w:World) (hs:s.size≤1000000) (h:kG w v l) (hl : ∀ r∈l,r.Fits) (hn:l.length≤100000) :
 Calls Tryz.prog 45 #[.string s,v] w fun e w'=>(∃ u,e = .returned (.tuple #[u,.int .i64 ((qk s l).2:Nat)])∧Row w' 126 2 u (qk s l).1.length (spC (qk s l).1))∧Upd [] w w':=by
 obtain ⟨i0,hi,hz0,hz1,hz2⟩:=info_parts zag
 have hd:=vF l (fun r hr=>(hl r hr).p)
 have HLV:Hid (qk s l=Jy s ((s.size:Int)-22-(qh l:Nat)) (l.drop 0) []):=Lib.hid (by rw [List.drop_zero,show (s.size:Int)-22-(qh l:Nat)=(s.size:Int)-(qh l:Nat)-22 by omega]; rfl)
 generalize qk s l=LP at *
 obtain ⟨a,cap,rfl,h⟩:=h
 have H:=Lib.hid h
 have HL:=Lib.hid hl
 have HLE:=Lib.hid (fun i=>vF (l.take i) (fun r hr=>(HL.out r (List.mem_of_mem_take hr)).p))
 clear h hl
 obtain ⟨n,hnn⟩ : ∃ n,l.length=n:=⟨_,rfl⟩
 rw [hnn] at hn hd ⊢
 have HN:=Lib.hid hnn
 clear hnn
 have hw0:IntKind.i64.wrap ((s.size:Int)-22)=(s.size:Int)-22:=IntWalk.i64_in _ (by omega)
 go_enter Tryz.func45,Tryz.ntmps45
 go_wp2
 go_loopg [7,22] n (fun gg s7 s22 wr => ∃ i,i≤n∧gg=n-i∧s22 = .int .i64 (i:Nat)∧s7 = .int .i64 ((s.size:Int)-22-(qh (l.take i):Nat))∧qh (l.take i)≤i*1047∧Hid (Upd [] w wr))
 case atStart=>exact ⟨0,Nat.zero_le _,rfl,rfl,by simp [qh],Nat.zero_le _,Lib.hid (Upd.refl _ _)⟩
 case round =>
  obtain ⟨i,hin,rfl,rfl,rfl,hdi,HU⟩:=hrel
  by_cases hc:i<n
  · have hcz:(i:Int)<(n:Int):=by omega
    have hil:i<l.length:=by rw [HN.out]; exact hc
    obtain ⟨b1,o1,rfl,g1⟩:=H.out i hil
    obtain ⟨r,hr⟩ : ∃ r,r=l[i]:=⟨_,rfl⟩
    rw [← hr] at g1
    have hf:r.Fits:=HL.out r (by rw [hr]; exact List.getElem_mem hil)
    have HNM:=Lib.hid (fun z=>kv r z hf)
    have HD:Hid (qh (l.take (i+1))=qh (l.take i)+(46+(zF r.k r.p).length)):=Lib.hid (by rw [List.take_succ_eq_append_getElem hil,Xe,← hr])
    have hnl:(zF r.k r.p).length≤1001:=by have:=xV r.k r.p; have:=hf.p; omega
    have HCA:=Lib.hid (fun f x h=>HU.out.keep (g1 f x h))
    clear g1 hf hr
    generalize qh (l.take i)=di at *
    obtain ⟨p,m,sum,l2,wh,k,md,t,pos⟩:=r
    unfold RecD.v at HNM
    unfold RecD.cells at HCA
    dsimp only at HNM HCA HD hnl
    have hsn:(zf (zF k p)).size=(zF k p).length:=zh _
    generalize zf (zF k p)=NS at *
    generalize (zF k p).length=nl at *
    have hw1:IntKind.i64.wrap ((i:Int)+1)=(i:Int)+1:=IntWalk.i64_in _ (by omega)
    have hw2:IntKind.i64.wrap (46+(NS.size:Int))=46+(NS.size:Int):=IntWalk.i64_in _ (by omega)
    have hw3:IntKind.i64.wrap ((s.size:Int)-22-(di:Nat)-(46+(NS.size:Int)))=(s.size:Int)-22-(di:Nat)-(46+(NS.size:Int)):=IntWalk.i64_in _ (by omega)
    have c0:=HCA.out 0 (.string p) rfl
    have c1:=HCA.out 1 (.int .i64 m) rfl
    have c2:=HCA.out 2 (.int .u32 (sum:Nat)) rfl
    have c3:=HCA.out 3 (.int .i64 l2) rfl
    have c4:=HCA.out 4 (.int .i64 wh) rfl
    have c5:=HCA.out 5 (.int .i64 k) rfl
    have c6:=HCA.out 6 (.int .i64 md) rfl
    have c7:=HCA.out 7 (.int .u32 (t:Nat)) rfl
    have c8:=HCA.out 8 (.int .i64 pos) rfl
    simp only [Nat.add_zero] at c0
    have HB:=Lib.hid (Blk.new wr [.string p,.int .i64 m,.int .u32 (sum:Nat),.int .i64 l2,.int .i64 wh,.int .i64 k,.int .i64 md,.int .u32 (t:Nat),.int .i64 pos] 52)
    have HU1:=Lib.hid (HU.out.alloc (.cells #[.string p,.int .i64 m,.int .u32 (sum:Nat),.int .i64 l2,.int .i64 wh,.int .i64 k,.int .i64 md,.int .u32 (t:Nat),.int .i64 pos] 52))
    go_upto_region 6 with fail
    change Code.wp _ _ _ _ (wr.alloc (.cells #[.string p,.int .i64 m,.int .u32 (sum:Nat),.int .i64 l2,.int .i64 wh,.int .i64 k,.int .i64 md,.int .u32 (t:Nat),.int .i64 pos] 52))
    generalize wr.alloc (.cells #[.string p,.int .i64 m,.int .u32 (sum:Nat),.int .i64 l2,.int .i64 wh,.int .i64 k,.int .i64 md,.int .u32 (t:Nat),.int .i64 pos] 52)=w2 at *
    generalize wr.heap.size=q at *
    clear c0 c1 c2 c3 c4 c5 c6 c7 c8 HCA HU
    have kA:=HB.out.all
    have k3:=HB.out.cell 3 rfl
    have k4:=HB.out.cell 4 rfl
    have k8:=HB.out.cell 8 rfl
    go_wp2_with fail
    refine (HNM.out _).mono ?_
    rintro e w3 ⟨rfl,hu3⟩
    have HU3:=Lib.hid (HU1.out.then hu3)
    clear kA k3 k4 k8 hu3 HB HU1
    go_wp2
    go_roundg (n-(i+1))
    · exact ⟨i+1,by omega,rfl,by first | rfl | go_num,by rw [HD.out]; congr 1; omega,by rw [HD.out]; omega,HU3⟩
    · omega
  · have hcz : ¬ (i:Int)<(n:Int):=by omega
    obtain rfl:i=n:=by omega
    have HT:Hid (l.take i=l):=Lib.hid (List.take_of_length_le (by rw [HN.out]; omega))
    rw [HT.out]
    clear hdi HT
    have HU2:=HU
    clear HU
    generalize hE:(s.size:Int)-22-(qh l:Nat)=E at *
    clear hE hw0 hd
    go_wp2
    go_loopg [6,35] i (fun gg v6 s35 wr => ∃ (j:Nat) (out:List (Int×Int)),j≤i∧gg=i-j∧s35 = .int .i64 (j:Nat)∧out.length≤j∧Hid (LP=Jy s E (l.drop j) out)∧Hid (Row wr 126 2 v6 out.length (spC out))∧Hid (∀ b,v6.ownBlock=some b→w.heap.size≤b)∧Hid (Upd [] w wr))
    case atStart=>exact ⟨0,[],Nat.zero_le _,rfl,rfl,Nat.zero_le _,HLV,Lib.hid (Row.nil _ _ _),Lib.hid (by simp [Value.ownBlock]),HU2⟩
    case round =>
     clear HU2 HLV
     obtain ⟨j,out,hjn,rfl,rfl,ho,HE,HR,HO,HU⟩:=hrel
     obtain ⟨va,vc,hvf⟩:=HR.out.form
     subst hvf
     by_cases hc:j<i
     · have hcz:(j:Int)<(i:Int):=by omega
       have hil:j<l.length:=by rw [HN.out]; exact hc
       obtain ⟨b1,o1,rfl,g1⟩:=H.out j hil
       obtain ⟨r,hr⟩ : ∃ r,r=l[j]:=⟨_,rfl⟩
       rw [← hr] at g1
       have hf:r.Fits:=HL.out r (by rw [hr]; exact List.getElem_mem hil)
       have HDT0:=fun z=>za8 s r z hs hf
       have HBD:=Lib.hid (fun h=>VN s r hs h)
       have HST:Hid (LP=if (xd s r).2.2≠0 then ([],(xd s r).2.2)
        else if E<r.pos+(xd s r).2.1∨out.any (yK (r.pos,r.pos+(xd s r).2.1))=true then ([],2)
        else Jy s E (l.drop (j+1)) (out++[(r.pos,r.pos+(xd s r).2.1)])):=Lib.hid (by rw [HE.out,List.drop_eq_getElem_cons hil,← hr]; rfl)
       have HCA:=Lib.hid (fun f x h=>HU.out.keep (g1 f x h))
       clear g1 hf hr HE
       unfold WQ at HDT0
       generalize xd s r=X at *
       obtain ⟨dx,nx,wx⟩:=X
       obtain ⟨p,m,sum,l2,wh,k,md,t,pos⟩:=r
       unfold RecD.v at HDT0
       unfold RecD.cells at HCA
       dsimp only at HDT0 HCA HBD HST
       have HDT:=Lib.hid HDT0
       clear HDT0
       have hw3:IntKind.i64.wrap ((j:Int)+1)=(j:Int)+1:=IntWalk.i64_in _ (by omega)
       have c0:=HCA.out 0 (.string p) rfl
       have c1:=HCA.out 1 (.int .i64 m) rfl
       have c2:=HCA.out 2 (.int .u32 (sum:Nat)) rfl
       have c3:=HCA.out 3 (.int .i64 l2) rfl
       have c4:=HCA.out 4 (.int .i64 wh) rfl
       have c5:=HCA.out 5 (.int .i64 k) rfl
       have c6:=HCA.out 6 (.int .i64 md) rfl
       have c7:=HCA.out 7 (.int .u32 (t:Nat)) rfl
       have c8:=HCA.out 8 (.int .i64 pos) rfl
       simp only [Nat.add_zero] at c0
       have HB:=Lib.hid (Blk.new wr [.string p,.int .i64 m,.int .u32 (sum:Nat),.int .i64 l2,.int .i64 wh,.int .i64 k,.int .i64 md,.int .u32 (t:Nat),.int .i64 pos] 52)
       have HU1:=Lib.hid (HU.out.alloc (.cells #[.string p,.int .i64 m,.int .u32 (sum:Nat),.int .i64 l2,.int .i64 wh,.int .i64 k,.int .i64 md,.int .u32 (t:Nat),.int .i64 pos] 52))
       have HR1:=Lib.hid (HR.out.alloc (.cells #[.string p,.int .i64 m,.int .u32 (sum:Nat),.int .i64 l2,.int .i64 wh,.int .i64 k,.int .i64 md,.int .u32 (t:Nat),.int .i64 pos] 52))
       go_upto_region 11 with fail
       change Code.wp _ _ _ _ (wr.alloc (.cells #[.string p,.int .i64 m,.int .u32 (sum:Nat),.int .i64 l2,.int .i64 wh,.int .i64 k,.int .i64 md,.int .u32 (t:Nat),.int .i64 pos] 52))
       generalize wr.alloc (.cells #[.string p,.int .i64 m,.int .u32 (sum:Nat),.int .i64 l2,.int .i64 wh,.int .i64 k,.int .i64 md,.int .u32 (t:Nat),.int .i64 pos] 52)=w3 at *
       generalize wr.heap.size=q at *
       clear c0 c1 c2 c3 c4 c5 c6 c7 c8 HCA HU HR
       have kA:=HB.out.all
       have k3:=HB.out.cell 3 rfl
       have k4:=HB.out.cell 4 rfl
       have k8:=HB.out.cell 8 rfl
       go_wp2_with fail
       refine (HDT.out _).mono ?_
       rintro e w4 ⟨rfl,hu4⟩
       have HB4:=Lib.hid (HB.out.upd hu4 (by simp))
       have HU4:=Lib.hid (HU1.out.then hu4)
       have HR4:=Lib.hid (HR1.out.upd hu4 (by simp))
       clear kA k3 k4 k8 hu4 HB HU1 HR1 HDT
       by_cases h1:wx=0
       rotate_left
       · have e1:(((wx:Nat):Int) != 0)=true:=by rw [bne_iff_ne]; omega
         have HV:=Lib.hid (HST.out.trans (if_pos h1))
         clear h1
         go_wp2
         go_returns
         exact ⟨⟨_,by rw [HV.out]; rfl,by rw [HV.out]; exact Row.nil _ _ _⟩,HU4.out⟩
       have HS1:=Lib.hid (HST.out.trans (if_neg (by simp [h1])))
       obtain ⟨hp1,hp2,hp3⟩:=HBD.out h1
       subst h1
       clear HBD HST
       obtain ⟨y,hy⟩ : ∃ y,pos+nx=y:=⟨_,rfl⟩
       have hw4:IntKind.i64.wrap (pos+nx)=y:=by rw [← hy]; exact IntWalk.i64_in _ (by omega)
       rw [hy] at HS1
       have hyb:0≤y∧y≤6000000000:=by omega
       clear hy hp1 hp2 hp3
       obtain ⟨ol,hol⟩ : ∃ ol,out.length=ol:=⟨_,rfl⟩
       have HOL:=Lib.hid hol
       have HSA:=Lib.hid (Row.spAt HR4.out)
       rw [hol] at ho HR4 HO ⊢
       clear hol
       go_wp2
       go_loopg [51] ol (fun gg s51 wq => ∃ k3,k3≤ol∧gg=ol-k3∧s51 = .int .i64 (k3:Nat)∧Hid (∀ k4,(hk:k4<out.length)→k4<k3→yK (pos,y) out[k4]=false)∧Hid (Upd [] w4 wq))
       case atStart=>exact ⟨0,Nat.zero_le _,rfl,rfl,Lib.hid (fun j _ h=>by omega),Lib.hid (Upd.refl _ _)⟩
       case round =>
        obtain ⟨k3,hk3,rfl,rfl,HT,HUq⟩:=hrel
        by_cases hc3:k3<ol
        · have hcz3:(k3:Int)<(ol:Int):=by omega
          have hkl:k3<out.length:=by rw [HOL.out]; exact hc3
          obtain ⟨a5,cap5,hf5,hcap5,hg5⟩:=HSA.out
          simp only [Value.slice.injEq] at hf5
          obtain ⟨rfl,_,rfl⟩:=hf5
          obtain ⟨b5,o5,rfl,d1,d2⟩:=hg5 k3 hkl
          clear hg5
          have c1:=HUq.out.keep d1
          have c2:=HUq.out.keep d2
          have HME:Hid (yK (pos,y) out[k3]=(decide (out[k3].1<y)&&decide (pos<out[k3].2))):=Lib.hid rfl
          have HTI:Hid (yK (pos,y) out[k3]=false → ∀ k4,(hk:k4<out.length)→k4<k3+1→yK (pos,y) out[k4]=false):=Lib.hid (fun h j2 hj2 hlt=>by
           rcases Nat.lt_or_ge j2 k3 with hji | hji
           · exact HT.out j2 hj2 hji
           · have:j2=k3:=by omega
             subst this; exact h)
          have HAN:Hid (yK (pos,y) out[k3]=true→out.any (yK (pos,y))=true):=Lib.hid (fun h=>List.any_eq_true.2 ⟨_,List.getElem_mem hkl,h⟩)
          clear d1 d2
          generalize out[k3]=x5 at *
          obtain ⟨x1,x2⟩:=x5
          dsimp only at c1 c2 HME
          have k8:=(HB4.out.upd HUq.out (by simp)).cell 8 rfl
          have HU6:=Lib.hid (HUq.out.alloc (.cells #[.int .i64 x1,.int .i64 x2] 126))
          have HX:=Lib.hid (Blk.new wr [.int .i64 x1,.int .i64 x2] 126)
          have hw6:IntKind.i64.wrap ((k3:Int)+1)=(k3:Int)+1:=IntWalk.i64_in _ (by omega)
          have hk9:=Nat.le_trans (Nat.le_of_lt hkl) hcap5
          have k8b:=((HB4.out.upd HUq.out (by simp)).alloc (.cells #[.int .i64 x1,.int .i64 x2] 126)).cell 8 rfl
          go_upto_region 17 with fail
          change Code.wp _ _ _ _ (wr.alloc (.cells #[.int .i64 x1,.int .i64 x2] 126))
          generalize wr.alloc (.cells #[.int .i64 x1,.int .i64 x2] 126)=w7 at *
          generalize wr.heap.size=c7 at *
          clear k8 c1 c2
          have yA:=HX.out.all
          by_cases g1:pos<x2
          · by_cases g2:x1<y
            · have HV:=Lib.hid (HS1.out.trans (if_pos (.inr (HAN.out (by rw [HME.out,decide_eq_true g1,decide_eq_true g2]; rfl)))))
              go_wp2
              go_returns
              exact ⟨⟨_,by rw [HV.out]; rfl,by rw [HV.out]; exact Row.nil _ _ _⟩,HU4.out.then HU6.out⟩
            · have HT2:=Lib.hid (HTI.out (by rw [HME.out,decide_eq_false g2]; rfl))
              go_wp2
              go_roundg (ol-(k3+1))
              · exact ⟨k3+1,by omega,rfl,by first | rfl | go_num,HT2,HU6⟩
              · omega
          · have HT2:=Lib.hid (HTI.out (by rw [HME.out,decide_eq_false g1,Bool.and_false]))
            go_wp2
            go_roundg (ol-(k3+1))
            · exact ⟨k3+1,by omega,rfl,by first | rfl | go_num,HT2,HU6⟩
            · omega
        · have hcz3 : ¬ (k3:Int)<(ol:Int):=by omega
          obtain rfl:k3=ol:=by omega
          have HNA:Hid (out.any (yK (pos,y))=false):=Lib.hid (by
           rw [Bool.eq_false_iff]
           intro h2
           obtain ⟨x,hx,h3⟩:=List.any_eq_true.1 h2
           obtain ⟨j2,hj2,rfl⟩:=List.mem_iff_getElem.1 hx
           have:=HT.out j2 hj2 (by rw [← HOL.out]; exact hj2)
           rw [this] at h3; cases h3)
          have HBq:=Lib.hid (HB4.out.upd HUq.out (by simp))
          have HRq:=Lib.hid (HR4.out.upd HUq.out (by simp))
          have HUz:=Lib.hid (HU4.out.then HUq.out)
          clear HT HUq HB4 HR4 HU4 HSA
          have k8:=HBq.out.cell 8 rfl
          by_cases h2:E<y
          · have HV:=Lib.hid (HS1.out.trans (if_pos (.inl h2)))
            go_wp2
            go_returns
            exact ⟨⟨_,by rw [HV.out]; rfl,by rw [HV.out]; exact Row.nil _ _ _⟩,HUz.out⟩
          have HV:=Lib.hid (HS1.out.trans (if_neg (fun h=>by rcases h with h | h; exact h2 h; rw [HNA.out] at h; cases h)))
          clear HS1 HNA
          go_wp2_with (at_builtin; refine zE _ rfl _ _ 77 rfl 126 i0 _ 2 16 Tryz.underlying77 hi hz0 hz1 hz2 rfl (by omega) (.slice va k3 vc) k3 _ rfl (HRq.out.alloc _) ⟨wr.heap.size,0,none⟩ 1 1 [.int .i64 pos,.int .i64 y] rfl rfl (World.news_of_block (cs := #[.int .i64 pos,.int .i64 y]) (t:=126) (fr:=(0,0)) (heap_alloc_new _ _)) (by simp [Value.oneCell']) (by unfold maxLen; omega) (by omega) ?_)
          rintro v9 w9 hR9 hU9 hT9
          obtain ⟨va9,vc9,rfl⟩:=hR9.form
          have HF:Hid (Row w9 126 2 (.slice va9 (k3+1) vc9) (out++[(pos,y)]).length (spC (out++[(pos,y)]))∧(∀ b,(Value.slice va9 (k3+1) vc9).ownBlock=some b→w.heap.size≤b)∧Upd [] w w9):=Lib.hid ⟨by
           rw [List.length_append,VB,HOL.out]; exact hR9,fun b hb=>by
           have:=HUz.out.size
           rcases hT9 with e | ⟨g,e1,e2⟩
           · exact HO.out b (by rw [← e]; simpa using hb)
           · rw [hb] at e1; simp at e1 e2; omega,(HUz.out.then ((Upd.refl _ _).alloc _)).trans hU9 (fun k hk => .inr (HO.out k (by simpa using hk)))⟩
          clear hR9 hU9 hT9 HRq HUz HO k8 HBq
          go_wp2
          go_roundg (i-(j+1))
          all_goals first
           | omega
           | exact ⟨j+1,out++[(pos,y)],by omega,rfl,by first | rfl | go_num,by simp; have:=HOL.out; omega,HV,Lib.hid HF.out.1,Lib.hid HF.out.2.1,Lib.hid HF.out.2.2⟩
     · have hcz : ¬ (j:Int)<(i:Int):=by omega
       obtain rfl:j=i:=by omega
       have HV:Hid (LP=(out,0)):=Lib.hid (by rw [HE.out,List.drop_of_length_le (by rw [HN.out]; omega)]; rfl)
       go_wp2
       go_returns
       exact ⟨⟨_,by rw [HV.out]; rfl,by rw [HV.out]; exact HR.out⟩,HU.out⟩
end Go.Proofs.YtigjingielnaoaaGreatDoor
namespace Go.Proofs.YtigjingielnaoaaGreatDoor
open Go.RowKit
theorem jh {fn:Func} {p t u:Tmp} (h:fn.results = #[.tmp t,.cell p 44,.tmp u]) (tmps:Array Value) (w:World) (g:Nat) (c0 c1 c2 c3:Value) (hp:tmps.getD p undef = .pointer (some ⟨g,0,none⟩)) (hB:Blk w g [c0,c1,c2,c3] 44) :
 (results fn tmps).run Tryz.prog w = .ok (.tuple #[tmps.getD t undef,.agg #[c0,c1,c2,c3],tmps.getD u undef]) w:=by
 have h0:=hB.cell 0 rfl
 have h1:=hB.cell 1 rfl
 have h2:=hB.cell 2 rfl
 have h3:=hB.cell 3 rfl
 have hp2:tmps[p]?.getD undef = .pointer (some ⟨g,0,none⟩):=by rw [← hp]; simp
 simp [results,h,go_sem,hp2,h0,h1,h2,h3]
theorem zeG {w:World} {e t:TypeId} {size n b:Nat} {v:Value} {xs cs:List Value} (h:Row w e size v n xs) (hB:Blk w b cs t) (ht:t≠e):v.ownBlock≠some b:=fun hk=>by
 rcases h.2 with ⟨rfl,_⟩ | ⟨g,cap,cur,rfl,hb,hh,_⟩
 · simp [Value.ownBlock] at hk
 · simp [Value.ownBlock] at hk
   subst hk
   have hB2:w.heap[g]? =_:=hB
   rw [hh] at hB2
   simp at hB2
   exact ht hB2.2.symm
set_option maxRecDepth 100000 in
set_option maxHeartbeats 3200000 in
theorem Vf (s:ByteArray) (w:World) (hs:s.size≤1000000) :
 Calls Tryz.prog 17 #[.string s] w fun e w'=>(∃ v,e = .returned (.tuple #[v,(xY s).2.1.v,.int .i64 ((xY s).2.2:Nat)])∧Row w' 52 9 v (xY s).1.length (qF (xY s).1))∧Upd [] w w':=by
 have HFD:=Lib.hid (fun z=>KL s z hs)
 have HOK:=Lib.hid (YB s (s.size+1-22))
 have HCL0:=fun z=>VP (s.extract (egF s).1.pos (egF s).2.1) ((egF s).1.many:Nat) z (by rw [ByteArray.size_extract]; omega)
 have HFI:=vy (s.extract (egF s).1.pos (egF s).2.1) ((egF s).1.many:Nat)
 have HLE:=QO (s.extract (egF s).1.pos (egF s).2.1) (egF s).1.many
 have HZZ:Hid (xY s=if (egF s).2.2=false then ([],EgD.no,15)
  else if (egF s).1.pos+(egF s).1.size≠(egF s).2.1 then ([],EgD.no,2)
  else if (zW (s.extract (egF s).1.pos (egF s).2.1) ((egF s).1.many:Nat)).2≠0 then ([],EgD.no,(zW (s.extract (egF s).1.pos (egF s).2.1) ((egF s).1.many:Nat)).2)
  else if (qk s (zW (s.extract (egF s).1.pos (egF s).2.1) ((egF s).1.many:Nat)).1).2≠0 then ([],EgD.no,(qk s (zW (s.extract (egF s).1.pos (egF s).2.1) ((egF s).1.many:Nat)).1).2)
  else ((zW (s.extract (egF s).1.pos (egF s).2.1) ((egF s).1.many:Nat)).1,(egF s).1,0)):=Lib.hid rfl
 generalize xY s=ZP at *
 change Hid ((egF s).2.2=true→zH (egF s).1=true∧(egF s).2.1+22≤s.size) at HOK
 generalize egF s=F at *
 obtain ⟨⟨ga,gb,gc,gd⟩,at0,OK⟩:=F
 unfold EgD.v at HFD
 dsimp only at HFD HOK HCL0 HFI HLE HZZ
 have HB:=Lib.hid (Blk.new w [.int .i64 0,.int .i64 0,.int .i64 0,.int .i64 0] 44)
 have HU:=Lib.hid ((Upd.refl [] w).alloc (.cells #[.int .i64 0,.int .i64 0,.int .i64 0,.int .i64 0] 44))
 go_enter Tryz.func17,Tryz.ntmps17
 go_upto_region 1 with fail
 change Code.wp _ _ _ _ (w.alloc (.cells #[.int .i64 0,.int .i64 0,.int .i64 0,.int .i64 0] 44))
 generalize w.alloc (.cells #[.int .i64 0,.int .i64 0,.int .i64 0,.int .i64 0] 44)=w1 at *
 generalize hb:w.heap.size=b at *
 have HWB:=Lib.hid (show w.heap.size≤b by omega)
 clear hb
 go_wp2_with fail
 refine (HFD.out _).mono ?_
 rintro e w2 ⟨rfl,hu2⟩
 have HB2:=Lib.hid ((HB.out.upd hu2 (by simp)).alloc (.cells #[.int .i64 (ga:Nat),.int .i64 (gb:Nat),.int .i64 (gc:Nat),.int .i64 (gd:Nat)] 44))
 have HU2:=Lib.hid ((HU.out.then hu2).alloc (.cells #[.int .i64 (ga:Nat),.int .i64 (gb:Nat),.int .i64 (gc:Nat),.int .i64 (gd:Nat)] 44))
 have HC2:=Lib.hid (Blk.new w2 [.int .i64 (ga:Nat),.int .i64 (gb:Nat),.int .i64 (gc:Nat),.int .i64 (gd:Nat)] 44)
 have hcb:w2.heap.size≠b:=by have:=(HB.out.upd hu2 (by simp)).lt; omega
 clear hu2 HB HU HFD
 go_upto_region 2 with fail
 change Code.wp _ _ _ _ (w2.alloc (.cells #[.int .i64 (ga:Nat),.int .i64 (gb:Nat),.int .i64 (gc:Nat),.int .i64 (gd:Nat)] 44))
 generalize w2.alloc (.cells #[.int .i64 (ga:Nat),.int .i64 (gb:Nat),.int .i64 (gc:Nat),.int .i64 (gd:Nat)] 44)=w3 at *
 generalize w2.heap.size=c at *
 have HB:=HB2
 have HU:=HU2
 clear HB2 HU2
 cases OK with
 | false =>
   have HV:=Lib.hid (HZZ.out.trans (if_pos rfl))
   have kA:=HB.out.all
   have fA:=HB.out.frz
   go_wp2
   exact bodyPost_ret (jh rfl _ _ b _ _ _ _ rfl (Blk.set4 HB.out _ _ _ _)) rfl ⟨⟨_,by rw [HV.out]; rfl,by rw [HV.out]; exact Row.nil _ _ _⟩,Upd.set4 HU.out (.inr HWB.out) _ _ _ _⟩
 | true =>
 have HZ1:=Lib.hid (HZZ.out.trans (if_neg (by simp)))
 obtain ⟨hr,hat⟩:=HOK.out rfl
 unfold zH at hr
 simp only [Bool.and_eq_true,decide_eq_true_eq] at hr
 have cA:=HC2.out.all
 have hw1:IntKind.i64.wrap ((gc:Int)+(gb:Int))=(gc:Int)+(gb:Int):=IntWalk.i64_in _ (by omega)
 by_cases h1:gc+gb=at0
 rotate_left
 · have e1:((gc:Int)+(gb:Int) != (at0:Int))=true:=by rw [bne_iff_ne]; omega
   have HV:=Lib.hid (HZ1.out.trans (if_pos h1))
   have kA:=HB.out.all
   have fA:=HB.out.frz
   go_wp2
   exact bodyPost_ret (jh rfl _ _ b _ _ _ _ rfl (Blk.set4 HB.out _ _ _ _)) rfl ⟨⟨_,by rw [HV.out]; rfl,by rw [HV.out]; exact Row.nil _ _ _⟩,Upd.set4 HU.out (.inr HWB.out) _ _ _ _⟩
 have e1:((gc:Int)+(gb:Int) != (at0:Int))=false:=by rw [bne_eq_false_iff_eq]; omega
 have HZ2:=Lib.hid (HZ1.out.trans (if_neg (by simp [h1])))
 have h2:gc≤at0:=by omega
 have hsl:at0≤s.size:=by omega
 clear HZ1 HZZ HOK
 obtain ⟨D,hD⟩ : ∃ D,s.extract gc at0=D:=⟨_,rfl⟩
 have HDE:=Lib.hid hD
 rw [hD] at HCL0 HFI HLE HZ2
 have HLV0:=fun v z (h:kG z v (zW D (ga:Nat)).1)=>KS s (zW D (ga:Nat)).1 v z hs h HFI (by omega)
 generalize zW D (ga:Nat)=CP at *
 generalize qk s CP.1=LP at *
 obtain ⟨L,why⟩:=CP
 obtain ⟨SPN,lw⟩:=LP
 dsimp only at HZ2 HLV0
 have HCL:=Lib.hid (fun z=>HCL0 z (by omega))
 have HLV:=Lib.hid HLV0
 unfold zak at HCL
 clear HCL0 HLV0 hD
 go_upto_region 6 with fail
 clear e1 cA hw1 h1
 have hq1:(gc:Int)≤(at0:Int):=by omega
 have hq2:(at0:Int)≤(s.size:Int):=by omega
 have hq3:(0:Int)≤(gc:Int):=by omega
 refine wp_region_held_drew (S:=fun w'=>Blk w' c [.int .i64 (ga:Nat),.int .i64 (gb:Nat),.int .i64 (gc:Nat),.int .i64 (gd:Nat)] 44∧Blk w' b [.int .i64 0,.int .i64 0,.int .i64 0,.int .i64 0] 44∧Upd [] w w') (by kernel_rfl) ⟨HC2.out.drew,HB.out.drew,HU.out.drew⟩ (fun hHeld=>hdN ?_)
 refine hdT 0 (some 28) ?_; refine hdT 1 (some 29) ?_
 refine hdT 2 (some 30) ?_ (hy:=by intro w0 hSw; have q0:=hSw.1.cell 2 rfl; go_simp; try with_reducible rfl); refine hdT 3 (some 31) ?_
 refine hdT 4 (some 32) ?_ (hy:=by intro w0 hSw; go_simp; all_goals first | rw [HDE.out] | (rw [← HDE.out]; simp)) (v := .string D)
 refine hdT 5 (some 33) ?_; refine hdT 6 (some 34) ?_ (hy:=by intro w0 hSw; have q0:=hSw.1.cell 0 rfl; go_simp; try with_reducible rfl)
 refine hdO 7 (fun K hK=>?_)
 go_simp
 refine (HCL.out _).mono ?_
 rintro e z1 ⟨⟨v,rfl,hrw⟩,hz1⟩
 go_wp2
 refine hK.out _ _ ⟨hHeld.1.upd hz1 (by simp),hHeld.2.1.upd hz1 (by simp),hHeld.2.2.then hz1⟩ (fun hHeld=>hdN ?_)
 clear hK K
 refine hdT 8 (some 27) ?_; refine hdT 9 (some 36) ?_; refine hdT 10 (some 37) ?_; refine hdT 11 (some 8) ?_; refine hdT 12 (some 9) ?_
 refine wpAnyH_done (by kernel_rfl) ?_ 0
 obtain ⟨va,vc,hvf⟩:=hrw.form
 subst hvf
 have HR6:=Lib.hid hrw
 have HC6:=Lib.hid hHeld.1
 have HB6:=Lib.hid hHeld.2.1
 have HU6:=Lib.hid hHeld.2.2
 clear hrw hz1 hHeld HC2 HB HU HCL
 by_cases h3:why=0
 rotate_left
 · have e1:(((why:Nat):Int) != 0)=true:=by rw [bne_iff_ne]; omega
   have HV:=Lib.hid (HZ2.out.trans (if_pos h3))
   have HB:=HB6
   have HU:=HU6
   clear h3
   have kA:=HB.out.all
   have fA:=HB.out.frz
   go_wp2
   exact bodyPost_ret (jh rfl _ _ b _ _ _ _ rfl (Blk.set4 HB.out _ _ _ _)) rfl ⟨⟨_,by rw [HV.out]; rfl,by rw [HV.out]; exact Row.nil _ _ _⟩,Upd.set4 HU.out (.inr HWB.out) _ _ _ _⟩
 have HZ3:=Lib.hid (HZ2.out.trans (if_neg (by simp [h3])))
 subst h3
 go_wp2_with fail
 refine (HLV.out _ _ (Row.recsAt HR6.out)).mono ?_
 rintro e w7 ⟨⟨u7,rfl,hr7⟩,hu7⟩
 have HB:=Lib.hid (HB6.out.upd hu7 (by simp))
 have HU:=Lib.hid (HU6.out.then hu7)
 have HC7:=Lib.hid (HC6.out.upd hu7 (by simp))
 have HR7:=Lib.hid (HR6.out.upd hu7 (by simp))
 clear hr7 hu7 HB6 HU6 HC6 HR6 HLV
 by_cases h4:lw=0
 rotate_left
 · have e1:(((lw:Nat):Int) != 0)=true:=by rw [bne_iff_ne]; omega
   have HV:=Lib.hid (HZ3.out.trans (if_pos h4))
   clear h4
   have kA:=HB.out.all
   have fA:=HB.out.frz
   go_wp2
   exact bodyPost_ret (jh rfl _ _ b _ _ _ _ rfl (Blk.set4 HB.out _ _ _ _)) rfl ⟨⟨_,by rw [HV.out]; rfl,by rw [HV.out]; exact Row.nil _ _ _⟩,Upd.set4 HU.out (.inr HWB.out) _ _ _ _⟩
 have HV:=Lib.hid (HZ3.out.trans (if_neg (by simp [h4])))
 subst h4
 have HNE:=Lib.hid (zeG HR7.out HB.out (by decide))
 go_upto_region 12 with fail
 have HBD:=Lib.hid HB.out.drew
 refine wp_region_held_drew (S:=fun w'=>Blk w' c [.int .i64 (ga:Nat),.int .i64 (gb:Nat),.int .i64 (gc:Nat),.int .i64 (gd:Nat)] 44) (by kernel_rfl) HC7.out.drew (fun hHeld=>hdN ?_)
 refine hdT 0 (some 52) ?_
 refine hdT 1 (some 53) ?_ (hy:=by intro w0 hSw; have qA:=hSw.all; go_simp; try with_reducible rfl)
 refine hdT 2 (some 2) ?_
 refine hdO 3 (fun K hK=>?_)
 have kA:=HB.out.all
 have fA:=HB.out.frz
 go_simp
 go_wp2
 refine hK.out _ _ ((((hHeld.setFar (a:=⟨b,0,none⟩) _ hcb).setFar (a:=⟨b,1,none⟩) _ hcb).setFar (a:=⟨b,2,none⟩) _ hcb).setFar (a:=⟨b,3,none⟩) _ hcb) (fun hHeld=>hdN ?_)
 clear hK K
 refine hdT 4 (some 4) ?_
 refine wpAnyH_done (by kernel_rfl) ?_ 0
 go_wp2
 exact bodyPost_ret (jh rfl _ _ b _ _ _ _ rfl (Blk.set4 HBD.out _ _ _ _)) rfl ⟨⟨_,by rw [HV.out]; rfl,by rw [HV.out]; exact ((((HR7.out.drew.setFar (a:=⟨b,0,none⟩) _ HNE.out).setFar (a:=⟨b,1,none⟩) _ HNE.out).setFar (a:=⟨b,2,none⟩) _ HNE.out).setFar (a:=⟨b,3,none⟩) _ HNE.out)⟩,Upd.set4 HU.out.drew (.inr HWB.out) _ _ _ _⟩
end Go.Proofs.YtigjingielnaoaaGreatDoor
namespace Go.Proofs.YtigjingielnaoaaGreatDoor
open Go.RowKit
def yi (a:Nat) (L:List Nat):List Nat:=zN 32 (yC a 8::L.map fun b=>yC b 2)
def Vs (at_:Nat) (L:List Nat) (q:Nat):List (List Nat):=(List.range q).map fun i=>yi (at_+16*i) ((L.drop (16*i)).take 16)
def vT (at_:Nat) (L:List Nat):List (List Nat):=Vs at_ L ((L.length+15)/16)
theorem Kz (at_:Nat) (L:List Nat) (q:Nat):Vs at_ L (q+1)=Vs at_ L q++[yi (at_+16*q) ((L.drop (16*q)).take 16)]:=by
 unfold Vs; rw [List.range_succ,List.map_append]; rfl
theorem YJ (a:Nat) : ∀ L:List Nat,(yi a L).length=8+3*L.length:=by
 intro L
 unfold yi
 rw [jF]
 have h : ∀ L:List Nat,qr (L.map fun b=>yC b 2)=2*L.length:=by
  intro L
  induction L with
  | nil=>rfl
  | cons b r ih =>
    unfold qr at ih ⊢
    simp only [List.map_cons,List.sum_cons,List.length_cons,qB] at ih ⊢
    rw [ih]; omega
 have e:qr (yC a 8::L.map fun b=>yC b 2)=8+qr (L.map fun b=>yC b 2):=by
  unfold qr; simp only [List.map_cons,List.sum_cons,qB]
 rw [e,h]
 simp only [List.length_cons,List.length_map]
 omega
theorem YX (n k:Nat) : ∀ x∈yC n k,x<256:=fun x hx=>by have:=QU k n x hx; omega
def OwnS (w0 w:World) (v:Value) (L:List (List Nat)):Prop:=Row w 9 1 v L.length (yw L) ∧ ∀ k,v.ownBlock=some k→w0.heap.size≤k
theorem OwnS.nil (w0 w:World):OwnS w0 w (.slice none 0 0) []:=⟨Row.nil _ _ _,fun k h=>by cases h⟩
theorem OwnS.upd {w0 w w':World} {v:Value} {L:List (List Nat)} (h:OwnS w0 w v L) (hu:Upd [] w w'):OwnS w0 w' v L:=⟨h.1.upd hu (by simp),h.2⟩
theorem OwnS.texts {w0 w:World} {v:Value} {L:List (List Nat)} (h:OwnS w0 w v L):TextsAt w v L:=Row.textsAt h.1
theorem OwnS.app {w0 w w':World} {v v':Value} {L:List (List Nat)} {p:List Nat} (o:Obj) (h:OwnS w0 w v L) (hu:Upd [] w0 w) (hR:Row w' 9 1 v' (L.length+1) (yw L++[.string (zf p)])) (hU:Upd v.ownBlock.toList (w.alloc o) w') (hT:Later (w.alloc o) v v') :
 OwnS w0 w' v' (L++[p])∧Upd [] w0 w':=by
 refine ⟨⟨?_,?_⟩,?_⟩
 · rw [List.length_append,List.length_singleton]
   have e:yw (L++[p])=yw L++[.string (zf p)]:=by unfold yw; rw [List.map_append]; rfl
   rw [e]; exact hR
 · intro k hk
   rcases hT with h1 | ⟨g,h1,h2⟩
   · exact h.2 k (by rw [← h1]; exact hk)
   · rw [h1] at hk; simp at hk h2; have:=hu.size; omega
 · exact (hu.alloc o).trans hU (fun k hk => .inr (h.2 k (by simpa using hk)))
theorem OwnS.form {w0 w:World} {v:Value} {L:List (List Nat)} (h:OwnS w0 w v L) : ∃ a c,v = .slice a L.length c:=h.1.form
end Go.Proofs.YtigjingielnaoaaGreatDoor
namespace Go.Proofs.YtigjingielnaoaaGreatDoor
open Go.RowKit Go.Shelf
attribute [local go_sem] Oper.semAt_some
theorem za0 (a:Option Addr) (n c:Nat) (w:World):Calls Tryz.prog 91 #[.slice a n c,.int .i64 16] w fun e w' =>
 e = .returned (.func (.func 138) #[] #[.pointer (some ⟨w.heap.size,0,none⟩),.pointer (some ⟨w.heap.size+1,0,none⟩)]) ∧
 w'=(w.alloc (.cells #[.slice a n c] 87)).alloc (.cells #[.int .i64 16] 3):=by
 go_enter Tryz.func91,Tryz.ntmps91
 go_wp2
 go_ret
 exact ⟨rfl,rfl⟩
def Qy (g n i:Nat):Value := .slice (some ⟨g,16*i,none⟩) (min 16 (n-16*i)) (min 16 (n-16*i))
abbrev qC (n:Nat) := { i:Nat // 16*i<n }
theorem Qw (q:Nat):List.range (q+1)=List.range q++[q]:=List.range_succ
theorem zbG {a b:Nat} (h:a≤b):List.range a <+: List.range b:=by
 induction h with
 | refl=>exact List.prefix_refl _
 | step _ ih=>exact ih.trans ⟨_,(Qw _).symm⟩
set_option maxRecDepth 100000 in
set_option maxHeartbeats 2000000 in
theorem za6 (Bs Bn g n cap:Nat) (w:World) (hB:Blk w Bs [.slice (some ⟨g,0,none⟩) n cap] 87) (hN:Blk w Bn [.int .i64 16] 3) (hn:n≤1000000) (hc:n≤cap) :
 zcw Tryz.prog 138 #[.pointer (some ⟨Bs,0,none⟩),.pointer (some ⟨Bn,0,none⟩)] (fun i:qC n => #[Qy g n i.1]) [] [Bs,Bn] (fun xs=>xs.map Subtype.val=List.range ((n+15)/16)) (fun pre=>pre.map Subtype.val <+: List.range ((n+15)/16)) ((n+15)/16) w:=by
 intro l J Jx W hU hz hJ hJx hY h0
 have b1:Blk W Bs [.slice (some ⟨g,0,none⟩) n cap] 87:=hB.upd hU (by simp)
 have b2:Blk W Bn [.int .i64 16] 3:=hN.upd hU (by simp)
 have HJ:=Lib.hid hJ
 have HY:=Lib.hid hY
 have HJ0:=Lib.hid h0
 clear hJ hY h0 hJx hU hz hB hN
 have HB:Hid (Blk W Bs [.slice (some ⟨g,0,none⟩) n cap] 87∧Blk W Bn [.int .i64 16] 3):=Lib.hid ⟨b1,b2⟩
 clear b1 b2
 refine callsIn_of_wp Tryz.func138 rfl trivial ?_ rfl
 simp only [Tryz.ntmps138,List.size_toArray,List.length_cons,List.length_nil,Nat.reduceAdd,Nat.reduceSub,Array.replicate_succ,Array.replicate_zero,List.push_toArray,List.append_toArray,List.nil_append,List.cons_append]
 gi_wp2
 gi_loopg [4] (n+16) (fun gg s4 wr => ∃ (q p:Nat) (pre:List (qC n)),Hid (p=16*q)∧Hid (pre.map Subtype.val=List.range q)∧p≤n+15∧gg=n+16-p∧s4 = .int .i64 (p:Nat)∧Hid (J pre wr)∧Hid (Blk wr Bs [.slice (some ⟨g,0,none⟩) n cap] 87∧Blk wr Bn [.int .i64 16] 3))
 case atStart=>exact ⟨0,0,[],Lib.hid rfl,Lib.hid rfl,by omega,rfl,rfl,HJ0,HB⟩
 case round =>
  obtain ⟨q,p,pre,HP,HPR,hp,rfl,rfl,HJp,HBk⟩:=hrel
  clear HB HJ0
  have c1:=HBk.out.1.cell 0 rfl
  have c2:=HBk.out.2.cell 0 rfl
  by_cases hcp:p<n
  · have hcz:(p:Int)<(n:Int):=by omega
    have hqn:q<(n+15)/16:=by have:=HP.out; omega
    have hsl0:(0:Int)≤(p:Int):=by omega
    have hsl1:(p:Int)≤(n:Int):=by omega
    gi_wp2_with fail
    gi_quiet (fail)
    have hJ4:J pre (wr.drewN nq):=HJ.out _ _ _ HJp.out (zan (fq:=[]) ((Upd.refl [] wr).drewN nq) (by simp) (by simp))
    have e1:((p:Int)+min 16 ((n-p:Nat):Int)).toNat-p=min 16 (n-p):=by omega
    have e2:Qy g n q = .slice (some ⟨g,p,none⟩) (min 16 (n-p)) (min 16 (n-p)):=by unfold Qy; rw [← HP.out]
    have hB4:Blk (wr.drewN nq) Bs [.slice (some ⟨g,0,none⟩) n cap] 87∧Blk (wr.drewN nq) Bn [.int .i64 16] 3:=⟨HBk.out.1.drewN nq,HBk.out.2.drewN nq⟩
    have HB4:=Lib.hid hB4
    have c3:=hB4.1.cell 0 rfl
    have HP2:Hid (p+16=16*(q+1)):=Lib.hid (by have:=HP.out; omega)
    obtain ⟨fn,tmps,assign,body,hy,hRd⟩:=HY.out pre ⟨q,by rw [← HP.out]; exact hcp⟩ (wr.drewN nq) hJ4 (by have:=congrArg List.length HPR.out; rw [List.length_map,List.length_range] at this; rw [this]; exact hqn) (by simp)
    have HPS:Hid ((pre++[(⟨q,by rw [← HP.out]; exact hcp⟩:qC n)]).map Subtype.val=List.range (q+1)):=Lib.hid (by rw [List.map_append,HPR.out,Qw]; rfl)
    dsimp only at hy
    rw [e2,← e1] at hy
    clear e1 e2 hJ4 hB4 HJp HBk
    have HQN:=Lib.hid hqn
    clear hqn
    generalize wr.drewN nq=w4 at *
    gi_wp2
    refine hRd.mono ?_
    rintro e W3 (⟨rfl,hJ3,hk3⟩ | ⟨rfl,hJx3⟩)
    · have HB5:Hid (Blk W3 Bs [.slice (some ⟨g,0,none⟩) n cap] 87∧Blk W3 Bn [.int .i64 16] 3):=Lib.hid ⟨(hk3.2 Bs (by simp)).trans HB4.out.1,(hk3.2 Bn (by simp)).trans HB4.out.2⟩
      have HJ3:=Lib.hid hJ3
      have c2:=HB5.out.2.cell 0 rfl
      clear hk3 hJ3 hRd
      gi_wp2
      gi_roundg (n+16-(p+16))
      all_goals first
       | omega
       | exact ⟨q+1,p+16,_,HP2,HPS,by omega,rfl,by first | rfl | go_num,HJ3,HB5⟩
    · have HJx3:=Lib.hid hJx3
      clear hJx3 hRd
      gi_wp2
      refine bodyPost_ret (results_none rfl _ _ _) rfl ?_
      exact ⟨⟨_,rfl⟩,.inr ⟨_,by rw [HPS.out]; exact zbG HQN.out,HJx3.out⟩⟩
  · have hcz : ¬ (p:Int)<(n:Int):=by omega
    have HQE:Hid (q=(n+15)/16):=Lib.hid (by have:=HP.out; omega)
    gi_wp2
    go_end0
    exact ⟨⟨_,rfl⟩,.inl ⟨pre,by have:=HPR.out; rw [HQE.out] at this; simpa using this,HJp.out⟩⟩
end Go.Proofs.YtigjingielnaoaaGreatDoor
