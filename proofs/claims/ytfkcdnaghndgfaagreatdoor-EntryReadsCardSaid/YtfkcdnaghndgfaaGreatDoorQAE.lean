/- The walks of the reference of layer 4 (swingleref04): Kind, Codes. -/
import Derived.Test.YtfkcdnaghndgfaaGreatDoorQAC
import Derived.Test.YtfkcdnaghndgfaaGreatDoorQAD
import Derived.Test.YtfkcdnaghndgfaaGreatDoorQAB
import Derived.Deep.CutBlock
import Derived.WalkSpells
set_option linter.unusedVariables false
set_option linter.unusedSimpArgs false
set_option linter.unusedSectionVars false
namespace Go.Proofs.YtfkcdnaghndgfaaGreatDoor
open Go.RowKit
def QZ (w:World) (n:List Nat) (g k i:Nat) (wr:World):Prop :=
 Row wr 22 1 (.slice (some ⟨g,0,none⟩) n.length n.length) n.length (qa (vE n k i))∧Upd [] w wr
set_option maxRecDepth 100000 in
set_option maxHeartbeats 3200000 in
theorem zb7 (a:Option Addr) (len cap:Nat) (l:List Int) (w:World) (hlen:len≤9223372036854775807) (hI:IntsIn w a len l) :
 Calls Tryz.prog 106 #[.slice a len cap] w (VJ w l):=by
 have hll:=hI.len
 have HI:=Lib.hid hI
 clear hI
 subst hll
 have HK:=Lib.hid (kG a l.length cap l w hlen HI.out)
 obtain ⟨i0,hi0,hz0,hz1,hz2⟩:=info_parts zdj
 by_cases hk3:zg l=3
 · have H3:=Lib.hid hk3
   rw [hk3] at HK
   clear hk3
   go_enter Tryz.func106,Tryz.ntmps106
   go_wp2_with fail
   refine HK.out.mono ?_
   rintro e w1 ⟨rfl,rfl⟩
   go_wp2
   go_returns
   exact ⟨.refl _ _,.inl ⟨H3.out,rfl⟩⟩
 · obtain ⟨hok,hps⟩:=xz hk3
   have hkb:((zg l:Nat):Int)≠3:=by omega
   have H3:=Lib.hid hk3
   have HO:=Lib.hid hok
   generalize zg l=kk at HK hkb
   clear hk3
   have hnl:=zZ l
   have h300:=(zy HO.out).1
   have hpb:=Lib.hid (fun k hk=>Ja (ze l) hps k hk)
   clear hps hok
   go_enter Tryz.func106,Tryz.ntmps106
   go_wp2_with fail
   refine HK.out.mono ?_
   rintro e w1 ⟨rfl,rfl⟩
   go_wp2_with (refine kv _ rfl _ _ 161 rfl 22 i0 _ Tryz.underlying161 hi0 hz0 hz1 rfl .i64 .i64 _ _ l.length rfl rfl rfl rfl (by rw [hz2]; omega) (by unfold maxLen; omega) ?_; intro w6 hR6 hU6 hs6)
   have hRel0:QZ w (ze l) w.heap.size 1 0 w6:=by
    refine ⟨?_,hU6⟩
    rw [ziA,hnl]
    have e:qa (List.replicate l.length 0)=List.replicate l.length (.int .u32 0):=by simp [qa]
    rw [e]; exact hR6
   clear hR6 hU6 hs6
   have hgs:w.heap.size≤w.heap.size:=Nat.le_refl _
   generalize hgg:w.heap.size=g at *
   have HG:=Lib.hid hgg
   clear hgg
   go_loopg [4,5] 15 (fun gg s4 s5 wr => ∃ k,k≤15∧gg=15-k∧s5 = .int .i64 ((k+1:Nat):Int)∧s4 = .int .u32 ((fst (ze l) k+cnt (ze l) k:Nat):Int)∧QZ w (ze l) g (k+1) 0 wr)
   case atStart=>exact ⟨0,by omega,rfl,rfl,rfl,hRel0⟩
   case round =>
    obtain ⟨k,hk,rfl,rfl,rfl,hR,hU⟩:=hrel
    clear hRel0
    have hle:=hpb.out k hk
    have hp15:2^k≤2^15:=Nat.pow_le_pow_right (by omega) (by omega)
    have hfs:fst (ze l) (k+1)=2*(fst (ze l) k+cnt (ze l) k):=rfl
    by_cases hc:k<15
    · have hcz:(k:Int)+1≤15:=by omega
      have hle2:=hpb.out (k+1) (by omega)
      have hp16:2^(k+1)≤2^15:=Nat.pow_le_pow_right (by omega) (by omega)
      have hf1:((2*(fst (ze l) k+cnt (ze l) k):Nat):Int)=((fst (ze l) (k+1)+cnt ((ze l).take 0) (k+1):Nat):Int):=by rw [hfs]; simp [cnt]
      have HF:=Lib.hid hf1
      clear hf1 hfs
      generalize fst (ze l) k+cnt (ze l) k=q at *
      go_wp2
      go_loopg [4,21] l.length (fun gg s4 s21 wx => ∃ i,i≤l.length∧gg=l.length-i∧s21 = .int .i64 (i:Nat)∧s4 = .int .u32 ((fst (ze l) (k+1)+cnt ((ze l).take i) (k+1):Nat):Int)∧QZ w (ze l) g (k+1) i wx)
      case atStart=>exact ⟨0,by omega,rfl,rfl,by rw [← HF.out]; simp,hR,hU⟩
      case round =>
       obtain ⟨i,hin,rfl,rfl,rfl,hR2,hU2⟩:=hrel
       have hct:=Zp (ze l) i (k+1)
       by_cases hc2:i<l.length
       · have hcz2:(i:Int)<(l.length:Int):=by omega
         obtain ⟨b,off,rfl,c0,r1,r2⟩:=(HI.out.pure hU2).cell i hc2
         have hkk:=(zy HO.out).2 _ (List.getElem_mem hc2)
         obtain ⟨x,hx⟩ : ∃ x:Nat,l[i]=(x:Int):=⟨l[i].toNat,by omega⟩
         have hin':i<(ze l).length:=by omega
         have hnk:(ze l)[i]=x:=by simp [ze,hx]
         have hnd:(ze l).getD i 0=x:=by rw [List.getD,List.getElem?_eq_getElem hin']; exact hnk
         rw [hx] at c0 hkk
         have hcs:=JP (ze l) i (k+1) hin'
         rw [hnk] at hcs
         clear hx r1 r2
         have hqb:fst (ze l) (k+1)+cnt ((ze l).take i) (k+1)≤32768:=by omega
         have hR3:=hR2
         rw [hnl] at hR3
         obtain ⟨xo,hxo⟩ : ∃ x,(qa (vE (ze l) (k+1) i))[i]? =some x:=⟨_,List.getElem?_eq_getElem (by rw [ko,Zi]; omega)⟩
         have d2:=Row.cell hR3 i hxo
         have f2:=Row.frz hR3 i
         by_cases hxk:x=k+1
         · have h2:=zgI (ze l) (k+1) i (by rw [hnd,hxk])
           have h3:=XM (ze l) i hin' (by omega)
           rw [hnk,hxk] at h3
           rw [h3] at h2
           have H2:=Lib.hid h2
           have hxz:(x:Int)=(k:Int)+1:=by omega
           have hcs2:Hid (fst (ze l) (k+1)+cnt ((ze l).take i) (k+1)+1=fst (ze l) (k+1)+cnt ((ze l).take (i+1)) (k+1)):=Lib.hid (by rw [hcs,if_pos ⟨hxk,by omega⟩]; omega)
           clear h2 h3 hcs hnk hnd hxo hxk hct hle2 hR2
           generalize fst (ze l) (k+1)+cnt ((ze l).take i) (k+1)=q2 at *
           go_wp2
           go_roundg (l.length-(i+1))
           case measure=>omega
           case rel =>
            refine ⟨i+1,by omega,rfl,by go_num,by rw [← hcs2.out]; go_num,?_,hU2.setCell (.inr (by rw [HG.out]; exact Nat.le_refl _)) _⟩
            rw [← H2.out,JN,hnl]
            exact hR3.set i _
         · have h2:=Lib.hid (zeC (ze l) (k+1) i (by rw [hnd]; exact hxk))
           have hxz : ¬ (x:Int)=(k:Int)+1:=by omega
           have hcs2:Hid (fst (ze l) (k+1)+cnt ((ze l).take i) (k+1)=fst (ze l) (k+1)+cnt ((ze l).take (i+1)) (k+1)):=Lib.hid (by rw [hcs,if_neg (fun e=>hxk e.1)]; omega)
           clear hcs hnk hnd hxo hxk hct hle2
           generalize fst (ze l) (k+1)+cnt ((ze l).take i) (k+1)=q2 at *
           go_wp2
           go_roundg (l.length-(i+1))
           case measure=>omega
           case rel=>exact ⟨i+1,by omega,rfl,by go_num,by rw [hcs2.out],by rw [h2.out]; exact hR2,hU2⟩
       · have hcz2 : ¬ (i:Int)<(l.length:Int):=by omega
         have hi:i=(ze l).length:=by omega
         have hq:Hid (fst (ze l) (k+1)+cnt ((ze l).take i) (k+1)=fst (ze l) (k+1)+cnt (ze l) (k+1)):=Lib.hid (by rw [hi,List.take_length])
         have hR3:Row wr 22 1 (.slice (some ⟨g,0,none⟩) (ze l).length (ze l).length) (ze l).length (qa (vE (ze l) (k+1+1) 0)):=by
          rw [hi] at hR2; rw [← zdP]; exact hR2
         clear hi
         generalize fst (ze l) (k+1)+cnt ((ze l).take i) (k+1)=q2 at *
         go_wp2
         go_roundg (15-(k+1))
         case measure=>omega
         case rel=>exact ⟨k+1,by omega,rfl,by go_num,by rw [hq.out],hR3,hU2⟩
    · have hk15:k=15:=by omega
      have hcz : ¬ (k:Int)+1≤15:=by omega
      rw [hk15,zhC _ (Jd HO.out),hnl] at hR
      clear hfs hle hp15 hk15
      generalize fst (ze l) k+cnt (ze l) k=q at *
      go_wp2
      go_returns
      exact ⟨hU,.inr ⟨H3.out,g,rfl,by rw [HG.out]; exact Nat.le_refl _,hR⟩⟩
end Go.Proofs.YtfkcdnaghndgfaaGreatDoor
namespace Go.Proofs.YtfkcdnaghndgfaaGreatDoor
open Go.RowKit
structure DcAt (w:World) (b:Nat) (v:Value) (n:List Nat):Prop where
 blk:Blk w b (zf (cl n)++[v]) 248
 row:Row w 3 1 v (zI n 16).length (zf (zI n 16))
 far:v.ownBlock≠some b
theorem DcAt.upd {w w':World} {b:Nat} {v:Value} {n:List Nat} {fp:List Nat} (h:DcAt w b v n) (hu:Upd fp w w') (hb:b∉fp) (hv : ∀ k,v.ownBlock=some k→k∉fp):DcAt w' b v n :=
 ⟨h.blk.upd hu hb,h.row.upd hu hv,h.far⟩
def zh8 (w:World) (l:List Int) (e:Ending) (w':World):Prop :=
 Upd [] w w'∧(((zg l=3∨zg l=0)∧e = .returned (.tuple #[.pointer none,.bool false])) ∨
  (zg l≠3∧zg l≠0 ∧ ∃ b v,e = .returned (.tuple #[.pointer (some ⟨b,0,none⟩),.bool true])∧DcAt w' b v (ze l)∧w.heap.size≤b ∧ ∀ k,v.ownBlock=some k→w.heap.size≤k))
def zbi (w:World) (b:Nat) (n:List Nat) (k i:Nat) (wr:World):Prop :=
 Upd [] w wr ∧ ∃ v,Blk wr b (zf (cl n)++[v]) 248∧Row wr 3 1 v ((zI n k).length+(idx n k i).length) (zf (zI n k++idx n k i))∧v.ownBlock≠some b ∧ ∀ k,v.ownBlock=some k→w.heap.size≤k
set_option maxRecDepth 100000 in
set_option maxHeartbeats 3200000 in
theorem zcY (a:Option Addr) (len cap:Nat) (l:List Int) (w:World) (hlen:len≤9223372036854775807) (hI:IntsIn w a len l) :
 Calls Tryz.prog 177 #[.slice a len cap] w (zh8 w l):=by
 have hll:=hI.len
 have HI:=Lib.hid hI
 clear hI
 subst hll
 have HK:=Lib.hid (kF a l.length cap l w hlen HI.out)
 have HC:=Lib.hid (fun w1 (hU:Upd [] w w1)=>JC a l.length cap l w1 hlen (HI.out.pure hU))
 obtain ⟨i0,hi0,hz0,hz1,hz2⟩:=info_parts qr
 by_cases hk3:zg l=3
 · have H3:=Lib.hid hk3
   rw [hk3] at HK
   clear hk3
   go_enter Tryz.func177,Tryz.ntmps177
   go_wp2_with fail
   refine HK.out.mono ?_
   rintro e w1 ⟨rfl,hU1⟩
   go_wp2
   go_returns
   exact ⟨hU1,.inl ⟨.inl H3.out,rfl⟩⟩
 · by_cases hk0:zg l=0
   · have H0:=Lib.hid hk0
     rw [hk0] at HK
     clear hk0 hk3
     go_enter Tryz.func177,Tryz.ntmps177
     go_wp2_with fail
     refine HK.out.mono ?_
     rintro e w1 ⟨rfl,hU1⟩
     go_wp2
     go_returns
     exact ⟨hU1,.inl ⟨.inr H0.out,rfl⟩⟩
   · obtain ⟨hok,hps⟩:=xz hk3
     have hkb:((zg l:Nat):Int)≠3:=by omega
     have hkb0:((zg l:Nat):Int)≠0:=by omega
     have hkf:(((zg l:Nat):Int)==3)=false:=by simpa using hkb
     have hkf0:(((zg l:Nat):Int)==0)=false:=by simpa using hkb0
     have H3:=Lib.hid hk3
     have H0:=Lib.hid hk0
     have HO:=Lib.hid hok
     generalize zg l=kk at HK hkb hkb0 hkf hkf0
     clear hk3 hk0
     have hnl:=zZ l
     have h300:=(zy HO.out).1
     go_enter Tryz.func177,Tryz.ntmps177
     go_wp2_with fail
     refine HK.out.mono ?_
     rintro e w1 ⟨rfl,hU1⟩
     go_wp2_with fail
     refine (HC.out _ (hU1.alloc _)).mono ?_
     rintro e w2 ⟨hU2,⟨_,rfl⟩ | ⟨hno,_⟩⟩
     case inr=>rw [hok] at hno; cases hno
     have hlen0:(zf (cl (ze l))).length=16:=by rw [zl,xy]
     clear hok
     have hBn:=(Blk.new w1 (zf (List.replicate 16 0)++[.slice none 0 0]) 248).upd hU2 (by simp)
     go_wp2_with (refine ZJ rfl 246 _ _ rfl w1.heap.size rfl _ rfl 248 (zf (List.replicate 16 0)) [.slice none 0 0] hBn (by kernel_rfl) hlen0 (yZ _) ?_; intro w3 hB3 hU3)
     have hb:w.heap.size≤w1.heap.size:=hU1.size
     have hU13:Upd [] w w3:=((hU1.alloc _).then hU2).trans hU3 (fun k hk=>by simp at hk; right; omega)
     clear hBn hU1 hU2 hU3
     generalize hg:w1.heap.size=b at *
     clear hg
     have hRel0:zbi w b (ze l) 1 0 w3:=⟨hU13,.slice none 0 0,hB3,by rw [WU]; exact Row.nil _ _ _,by simp [Value.ownBlock],by simp [Value.ownBlock]⟩
     clear hB3 hU13
     go_loopg [6] 15 (fun g s6 wr => ∃ k,k≤15∧g=15-k∧s6 = .int .i64 ((k+1:Nat):Int)∧zbi w b (ze l) (k+1) 0 wr)
     case atStart=>exact ⟨0,by omega,rfl,rfl,hRel0⟩
     case round =>
      obtain ⟨k,hk,rfl,rfl,hR⟩:=hrel
      clear hRel0
      by_cases hc:k<15
      · have hcz:(k:Int)+1≤15:=by omega
        go_wp2
        go_loopg [33] l.length (fun g s33 wx => ∃ i,i≤l.length∧g=l.length-i∧s33 = .int .i64 (i:Nat)∧zbi w b (ze l) (k+1) i wx)
        case atStart=>exact ⟨0,by omega,rfl,rfl,hR⟩
        case round =>
         obtain ⟨i,hin,rfl,rfl,hUx,v,hB,hRow,hne,hnew⟩:=hrel
         clear hR
         by_cases hc2:i<l.length
         · have hcz2:(i:Int)<(l.length:Int):=by omega
           obtain ⟨ba,off,rfl,c0,r1,r2⟩:=(HI.out.pure hUx).cell i hc2
           have hkk:=(zy HO.out).2 _ (List.getElem_mem hc2)
           obtain ⟨x,hx⟩ : ∃ x:Nat,l[i]=(x:Int):=⟨l[i].toNat,by omega⟩
           have hin':i<(ze l).length:=by omega
           have hnd:(ze l).getD i 0=x:=by rw [List.getD,List.getElem?_eq_getElem hin']; simp [ze,hx]
           rw [hx] at c0 hkk
           have hs:=Qc (ze l) (k+1) i
           rw [hnd] at hs
           clear hx r1 r2 hnd
           by_cases hxk:x=k+1
           · have hxz:(x:Int)=(k:Int)+1:=by omega
             rw [if_pos hxk] at hs
             have H2:=Lib.hid hs
             clear hs hxk
             have hl1:=kH (ze l) (k+1)
             have hl2:=Jm (ze l) (k+1) i
             have hl3:(k+1)*(ze l).length≤15*300:=Nat.mul_le_mul (by omega) (by omega)
             obtain ⟨va,vc,rfl⟩:=hRow.form
             have d1:=hB.cell 16 (v := .slice va ((zI (ze l) (k+1)).length+(idx (ze l) (k+1) i).length) vc) (by rw [List.getElem?_append_right (by omega),hlen0]; rfl)
             have f1:=hB.frz 16
             have hlt:=Row.lt hRow
             have hbl:=hB.lt
             obtain ⟨XS,hXS⟩ : ∃ XS,zI (ze l) (k+1)++idx (ze l) (k+1) i=XS:=⟨_,rfl⟩
             have hXL:(zI (ze l) (k+1)).length+(idx (ze l) (k+1) i).length=XS.length:=by rw [← hXS,List.length_append]
             have hXb:XS.length≤5000:=by omega
             rw [hXL] at hRow hlt d1 hB hne hnew
             rw [hXS] at hRow
             have HXS:=Lib.hid hXS
             have HXL:=Lib.hid hXL
             clear hXS hXL hl1 hl2 hl3
             go_wp2_with (at_builtin; refine zC _ rfl _ _ 98 rfl 3 i0 _ 1 8 Tryz.underlying98 hi0 hz0 hz1 hz2 rfl (by omega) _ XS.length _ rfl (hRow.alloc _) ⟨wr.heap.size,0,none⟩ 1 1 [_] rfl rfl (World.news_of_block (cs := #[_]) (t:=3) (fr:=(0,0)) (heap_alloc_new _ _)) (by simp [Value.oneCell']) (by unfold maxLen; omega) (by omega) ?_)
             intro v2 w4 hR4 hU4 hT4
             obtain ⟨a2,c2,rfl⟩:=hR4.form
             have hfar:b∉(Value.slice va XS.length vc).ownBlock.toList:=by simpa [eq_comm] using hne
             have hB4:=(hB.alloc _).upd hU4 hfar
             have k4:=hB4.cell 16 (v := .slice va XS.length vc) (by rw [List.getElem?_append_right (by omega),hlen0]; rfl)
             have f4:=hB4.frz 16
             go_wp2
             go_roundg (l.length-(i+1))
             case measure=>omega
             case rel =>
              refine ⟨i+1,by omega,rfl,by go_num,((hUx.alloc _).trans hU4 ?_).setCell (.inr hb) _,.slice a2 (XS.length+1) c2,?_,?_,?_,?_⟩
              · intro k hk; right; exact hnew k (by simpa using hk)
              · have h:=hB4.set 16 (.slice a2 (XS.length+1) c2)
                rw [List.set_append_right _ _ (by omega),hlen0] at h
                exact h
              · rw [H2.out,← List.append_assoc,HXS.out,List.length_append,← Nat.add_assoc,HXL.out]
                have h:=hR4.setFar (a:=⟨b,16,none⟩) (.slice a2 (XS.length+1) c2) (hT4.ne (by simp; omega) hne)
                rw [show zf (XS++[i])=zf XS++[.int .i64 (i:Int)] by simp [zf]]
                exact h
              · exact hT4.ne (by simp; omega) hne
              · intro k hk
                rcases hT4 with h | ⟨g,h1,h2⟩
                · exact hnew k (by rw [← h]; exact hk)
                · rw [h1] at hk; simp at hk h2; have:=hUx.size; omega
           · have hxz : ¬ (x:Int)=(k:Int)+1:=by omega
             rw [if_neg hxk,List.append_nil] at hs
             have H2:=Lib.hid hs
             clear hs hxk
             go_wp2
             go_roundg (l.length-(i+1))
             case measure=>omega
             case rel=>exact ⟨i+1,by omega,rfl,by go_num,hUx,v,hB,by rw [H2.out]; exact hRow,hne,hnew⟩
         · have hcz2 : ¬ (i:Int)<(l.length:Int):=by omega
           have hi:i=(ze l).length:=by omega
           have H2:=Lib.hid (kg (ze l) (k+1) (by omega))
           have H3:=Lib.hid (show (idx (ze l) (k+1+1) 0)=[] by simp [idx])
           have hRow2:Row wr 3 1 v ((zI (ze l) (k+1+1)).length+(idx (ze l) (k+1+1) 0).length) (zf (zI (ze l) (k+1+1)++idx (ze l) (k+1+1) 0)):=by
            rw [H3.out,H2.out,List.append_nil,List.length_nil,Nat.add_zero,List.length_append,← hi]; exact hRow
           clear hi hRow
           go_wp2
           go_roundg (15-(k+1))
           case measure=>omega
           case rel=>exact ⟨k+1,by omega,rfl,by go_num,hUx,v,hB,hRow2,hne,hnew⟩
      · have hk15:k=15:=by omega
        have hcz : ¬ (k:Int)+1≤15:=by omega
        subst hk15
        obtain ⟨hUx,v,hB,hRow,hne,hnew⟩:=hR
        have H3':=Lib.hid (show (idx (ze l) (15+1) 0)=[] by simp [idx])
        rw [H3'.out,List.append_nil,List.length_nil,Nat.add_zero] at hRow
        go_wp2
        go_returns
        exact ⟨hUx,.inr ⟨H3.out,H0.out,b,v,rfl,⟨hB,hRow,hne⟩,hb,hnew⟩⟩
end Go.Proofs.YtfkcdnaghndgfaaGreatDoor
namespace Go.Proofs.YtfkcdnaghndgfaaGreatDoor
open Go.RowKit
def vw (s:ByteArray):List Bool:=zv (za s)
theorem Ks (s:ByteArray):(vw s).length=8*s.size:=by rw [vw,yN,zc]
def zu (s:ByteArray) (at_ n:Nat):Nat:=val (((vw s).drop at_).take n)
theorem jh (s:ByteArray) (a n:Nat):zu s a n<2^n:=zaK _ _ _
theorem ZS (s:ByteArray) (a:Nat):zu s a 0=0:=by simp [zu,val]
theorem VQ (s:ByteArray) (a m n:Nat) (h:a+m≤8*s.size):zu s a (m+n)=zu s a m+2^m*zu s (a+m) n:=by
 unfold zu
 have h1:((vw s).drop a).take (m+n)=((vw s).drop a).take m++((vw s).drop (a+m)).take n:=by
  rw [List.take_add,List.drop_drop]
 have h2:(((vw s).drop a).take m).length=m:=by rw [List.length_take,List.length_drop,Ks]; omega
 rw [h1,vo,h2]
theorem YE (l:List Nat) (q:Nat):(zv l).drop (8*q)=zv (l.drop q):=by
 induction l generalizing q with
 | nil=>simp [zv]
 | cons x l ih =>
   cases q with
   | zero=>simp
   | succ q =>
     have e:zv (x::l)=low 8 x++zv l:=rfl
     rw [e,show 8*(q+1)=(low 8 x).length+8*q by rw [zk]; omega,← List.drop_drop,List.drop_left,ih]
     rfl
theorem XQ (s:ByteArray) (q f t:Nat) (hq:q<s.size) (hft:f+t≤8):zu s (8*q+f) t=s[q].toNat/2^f%2^t:=by
 have hb:q<(za s).length:=by rw [zc]; exact hq
 have e1:(vw s).drop (8*q+f)=(zv ((za s).drop q)).drop f:=by
  rw [← List.drop_drop,vw,YE]
 have e2:(za s).drop q=(za s)[q]::(za s).drop (q+1):=List.drop_eq_getElem_cons hb
 have e3:zv ((za s).drop q)=low 8 (za s)[q]++zv ((za s).drop (q+1)):=by rw [e2]; rfl
 unfold zu
 rw [e1,e3,List.drop_append_of_le_length (by rw [zk]; omega),List.take_append_of_le_length (by rw [List.length_drop,zk]; omega),za7 _ _ (by rw [List.length_drop,zk]; omega),zaV _ _ (by rw [zk]; omega),KY,yC s q hq hb]
 have hlt:=s[q].toNat_lt
 rw [Nat.mod_eq_of_lt hlt]
def RdAt (w:World) (b:Nat) (t:TypeId) (s:ByteArray) (at_:Nat) (bad:Bool):Prop:=Blk w b [.string s,.int .i64 (at_:Nat),.bool bad] t∧at_≤8*s.size
theorem RdAt.upd {w w':World} {b:Nat} {t:TypeId} {s:ByteArray} {at_:Nat} {bad:Bool} {fp:List Nat} (h:RdAt w b t s at_ bad) (hU:Upd fp w w') (hn:b∉fp):RdAt w' b t s at_ bad:=⟨h.1.upd hU hn,h.2⟩
def yW (s:ByteArray) (at_:Nat) (bad:Bool) (n:Int):Bool:=bad||decide (n<0)||decide (32<n)||decide (((8*s.size-at_:Nat):Int)<n)
def yX (s:ByteArray) (at_:Nat) (bad:Bool) (n:Int):Nat:=if yW s at_ bad n then 0 else zu s at_ n.toNat
def rdTo (s:ByteArray) (at_:Nat) (bad:Bool) (n:Int):Nat:=if yW s at_ bad n then at_ else at_+n.toNat
def xA (at_:Nat) (bad:Bool):Nat:=if bad then at_ else 8*((at_+7)/8)
def xw (s:ByteArray) (at_:Nat) (bad:Bool) (n:Int):Bool:=bad||decide (n<0)||decide (((s.size-(at_+7)/8:Nat):Int)<n)
def xu (s:ByteArray) (at_:Nat) (bad:Bool) (n:Int):ByteArray:=if xw s at_ bad n then ⟨#[]⟩ else s.extract ((at_+7)/8) ((at_+7)/8+n.toNat)
def jw (s:ByteArray) (at_:Nat) (bad:Bool) (n:Int):Nat:=if xw s at_ bad n then xA at_ bad else 8*((at_+7)/8)+8*n.toNat
theorem Km (s:ByteArray) (a:Nat) (bad:Bool) (h:a≤8*s.size):xA a bad≤8*s.size:=by unfold xA; split<;>omega
theorem zgN (s:ByteArray) (w:World):Calls Tryz.prog 97 #[.string s] w fun e w'=>e = .returned (.pointer (some ⟨w.heap.size,0,none⟩))∧w.alloc (.cells #[.string s,.int .i64 0,.bool false] 194)=w':=by
 go_enter Tryz.func97,Tryz.ntmps97
 go_wp2
 go_returns
 exact ⟨rfl,rfl⟩
theorem zfA (w:World) (s:ByteArray) (t:TypeId):RdAt (w.alloc (.cells #[.string s,.int .i64 0,.bool false] t)) w.heap.size t s 0 false :=
 ⟨Blk.new w [.string s,.int .i64 0,.bool false] t,Nat.zero_le _⟩
theorem yf (b:Nat) (w:World) (t:TypeId) (s:ByteArray) (a:Nat) (bad:Bool) (hR:RdAt w b t s a bad) :
 Calls Tryz.prog 173 #[.pointer (some ⟨b,0,none⟩)] w fun e w'=>e = .returned (.bool (!bad))∧w=w':=by
 have h2:=hR.1.cell 2 rfl
 go_enter Tryz.func173,Tryz.ntmps173
 go_wp2
 go_returns
 exact ⟨rfl,rfl⟩
set_option maxHeartbeats 800000 in
theorem JZ (b:Nat) (w:World) (t:TypeId) (s:ByteArray) (a:Nat) (bad:Bool) (hR:RdAt w b t s a bad) (hs:s.size≤1099511627776) :
 Calls Tryz.prog 205 #[.pointer (some ⟨b,0,none⟩)] w fun e w'=>e = .returned (.int .i64 ((8*s.size-a:Nat):Int)) ∧ ∃ n,w'=w.drewN n:=by
 have hA:=hR.1.all
 have hle:=hR.2
 have he:Hid ((8*(s.size:Int)-(a:Int))=((8*s.size-a:Nat):Int)):=Lib.hid (by omega)
 go_enter Tryz.func205,Tryz.ntmps205
 go_wp2
 go_quiet (fail)
 go_wp2
 go_returns
 exact ⟨by rw [← he.out]; rfl,_,rfl⟩
theorem Vw (b:Nat) (w:World) (t:TypeId) (s:ByteArray) (a:Nat) (bad:Bool) (hR:RdAt w b t s a bad) (hs:s.size≤1099511627776) :
 Calls Tryz.prog 99 #[.pointer (some ⟨b,0,none⟩)] w fun e w'=>e = .returned (.int .i64 (((a+7)/8:Nat):Int))∧w=w':=by
 have h1:=hR.1.cell 1 rfl
 have hle:=hR.2
 go_enter Tryz.func99,Tryz.ntmps99
 go_wp2
 go_returns
 have e:(((a:Int)+8-1)/8)=(((a+7)/8:Nat):Int):=by omega
 exact ⟨by rw [← e]; rfl,rfl⟩
def vr (w:World) (b:Nat) (t:TypeId) (s:ByteArray) (r:Value) (a':Nat) (bad':Bool) (e:Ending) (w':World):Prop :=
 e = .returned r∧RdAt w' b t s a' bad'∧Upd [b] w w'
def Qn (w:World) (b:Nat) (t:TypeId) (s:ByteArray) (a':Nat) (w':World):Prop:=RdAt w' b t s a' false∧Upd [b] w w'
theorem zi6 (v g x f T:Nat) (hv:v<2^g) (hg:g+T≤32) (hx:x<256) (hT:T≤8) (hf:f≤7) :
 bits BinOp.or IntKind.u32 (v:Int) (bits BinOp.and IntKind.u32 ((x:Int)%4294967296/2^f) ((2^T-1)%4294967296)*2^g%4294967296)=((v+2^g*(x/2^f%2^T):Nat):Int):=by
 have hT1:1≤2^T:=Nat.one_le_two_pow
 have hT2:2^T≤2^8:=Nat.pow_le_pow_right (by omega) hT
 have e1:(x:Int)%4294967296/2^f=((x/2^f:Nat):Int):=by
  have:(x:Int)%4294967296=(x:Int):=by omega
  rw [this]; simp
 have e0:(2:Int)^T=((2^T:Nat):Int):=by simp
 have e2:((2:Int)^T-1)%4294967296=((2^T-1:Nat):Int):=by rw [e0]; omega
 have e3:(2:Int)^g=((2^g:Nat):Int):=by simp
 have hq:x/2^f≤255:=Nat.le_trans (Nat.div_le_self _ _) (by omega)
 rw [e1,e2,e3,u32_and_nat _ _ (by omega) (by omega),Nat.and_two_pow_sub_one_eq_mod]
 have h1:x/2^f%2^T<2^T:=Nat.mod_lt _ (by omega)
 have h2:x/2^f%2^T*2^g<2^T*2^g:=Nat.mul_lt_mul_of_pos_right h1 (Nat.two_pow_pos _)
 have h3:2^T*2^g≤2^32:=by rw [← Nat.pow_add]; exact Nat.pow_le_pow_right (by omega) (by omega)
 have h4:2^g≤2^32:=Nat.pow_le_pow_right (by omega) (by omega)
 generalize x/2^f%2^T=y at *
 have h5:((y:Int)*((2^g:Nat):Int))%4294967296=((y*2^g:Nat):Int):=by rw [← Int.natCast_mul]; omega
 rw [h5,u32_or_nat _ _ (by omega) (by omega),Nat.or_comm,zcR.nat_join' y v g hv]
set_option maxRecDepth 100000 in
set_option maxHeartbeats 3200000 in
theorem Jy (b:Nat) (n:Int) (w:World) (s:ByteArray) (a:Nat) (bad:Bool) (hR:RdAt w b 194 s a bad) (hs:s.size≤1099511627776) :
 Calls Tryz.prog 172 #[.pointer (some ⟨b,0,none⟩),.int .i64 n] w
  (vr w b 194 s (.int .u32 (yX s a bad n:Nat)) (rdTo s a bad n) (yW s a bad n)):=by
 have HF:=Lib.hid (yf b w _ s a bad hR)
 have h2:=hR.1.cell 2 rfl
 have f2:=hR.1.frz 2
 cases hb:yW s a bad n with
 | true =>
   have e1:yX s a bad n=0:=by unfold yX; rw [if_pos hb]
   have e2:rdTo s a bad n=a:=by unfold rdTo; rw [if_pos hb]
   rw [e1,e2]
   cases bad with
   | true =>
     go_enter Tryz.func172,Tryz.ntmps172
     go_wp2_with fail
     refine HF.out.mono ?_
     rintro e w' ⟨rfl,rfl⟩
     go_wp2
     go_returns
     exact ⟨rfl,hR,.refl _ _⟩
   | false =>
     have hw1:RdAt (w.setCell ⟨b,2,none⟩ (.bool true)) b 194 s a true:=⟨hR.1.set 2 _,hR.2⟩
     have hU1:Upd [b] w (w.setCell ⟨b,2,none⟩ (.bool true)):=(Upd.refl _ _).setCell (.inl (by simp)) _
     simp only [yW,Bool.false_or,Bool.or_eq_true,decide_eq_true_eq] at hb
     by_cases hn:n<0
     · clear hb e1 e2
       go_enter Tryz.func172,Tryz.ntmps172
       go_wp2_with fail
       refine HF.out.mono ?_
       rintro e w' ⟨rfl,rfl⟩
       go_wp2
       go_returns
       exact ⟨rfl,hw1,hU1⟩
     · by_cases hn2:32<n
       · clear hb e1 e2
         go_enter Tryz.func172,Tryz.ntmps172
         go_wp2_with fail
         refine HF.out.mono ?_
         rintro e w' ⟨rfl,rfl⟩
         go_wp2
         go_returns
         exact ⟨rfl,hw1,hU1⟩
       · have hn3:((8*s.size-a:Nat):Int)<n:=by omega
         have HL:=Lib.hid (JZ b w _ s a false hR hs)
         have hw1' : ∀ k,RdAt ((w.drewN k).setCell ⟨b,2,none⟩ (.bool true)) b 194 s a true:=fun k=>⟨(hR.1.drewN k).set 2 _,hR.2⟩
         have hU1' : ∀ k,Upd [b] w ((w.drewN k).setCell ⟨b,2,none⟩ (.bool true)):=fun k=>((Upd.refl _ _).drewN k).setCell (.inl (by simp)) _
         have H1:=Lib.hid hw1'
         have H2:=Lib.hid hU1'
         clear hb hw1' hU1' e1 e2
         generalize 8*s.size-a=q at *
         go_enter Tryz.func172,Tryz.ntmps172
         go_wp2_with fail
         refine HF.out.mono ?_
         rintro e w' ⟨rfl,rfl⟩
         go_wp2_with fail
         refine HL.out.mono ?_
         rintro e w' ⟨rfl,k,rfl⟩
         go_wp2
         go_returns
         exact ⟨rfl,H1.out k,H2.out k⟩
 | false =>
   have e0:=hb
   simp only [yW,Bool.or_eq_false_iff,decide_eq_false_iff_not] at hb
   obtain ⟨⟨⟨rfl,hn0⟩,hn32⟩,hnl⟩:=hb
   have e1:yX s a false n=zu s a n.toNat:=by unfold yX; rw [if_neg (by rw [e0]; decide)]
   have e2:rdTo s a false n=a+n.toNat:=by unfold rdTo; rw [if_neg (by rw [e0]; decide)]
   rw [e1,e2]
   obtain ⟨N,rfl⟩ : ∃ N:Nat,n=(N:Int):=⟨n.toNat,by omega⟩
   have hN:a+N≤8*s.size:=by have:=hR.2; omega
   have hN32:N≤32:=by omega
   rw [Int.toNat_natCast]
   have HL:=Lib.hid (JZ b w _ s a false hR hs)
   have hnl2:(N:Int)≤((8*s.size-a:Nat):Int):=by omega
   clear e0 e1 e2 hnl hn32 hn0
   generalize 8*s.size-a=q at *
   have d1:decide ((N:Int)<0)=false:=by simp
   have d2:decide ((32:Int)<(N:Int))=false:=by simp; omega
   have d3:decide (q<N)=false:=by simp; omega
   have hR0 : ∀ k,Qn w b 194 s (a+0) (w.drewN k):=fun k=>⟨⟨hR.1.drewN k,by have:=hR.2; omega⟩,(Upd.refl _ _).drewN k⟩
   have H0:=Lib.hid hR0
   clear hR0
   go_enter Tryz.func172,Tryz.ntmps172
   go_wp2_with fail
   refine HF.out.mono ?_
   rintro e w' ⟨rfl,rfl⟩
   go_wp2_with fail
   refine HL.out.mono ?_
   rintro e w' ⟨rfl,k,rfl⟩
   have hRk:=H0.out k
   clear HF HL h2 f2 H0
   generalize w.drewN k=w1 at *
   go_wp2
   clear hnl2
   go_loopg [4,5] N (fun gg s4 s5 wr => ∃ g,g≤N∧gg=N-g∧s5 = .int .i64 (g:Nat)∧s4 = .int .u32 (zu s a g:Nat)∧Qn w b 194 s (a+g) wr)
   case atStart=>exact ⟨0,by omega,rfl,rfl,by rw [ZS]; rfl,hRk⟩
   case round =>
    obtain ⟨g,hg,rfl,rfl,rfl,hRr,hU⟩:=hrel
    clear hRk
    have kA:=hRr.1.all
    have k2:=hRr.1.frz 1
    by_cases hc:g<N
    · have hcz:(g:Int)<(N:Int):=by omega
      obtain ⟨c,f,hcf,hf7⟩ : ∃ c f,a+g=8*c+f∧f≤7:=⟨(a+g)/8,(a+g)%8,by omega,by omega⟩
      obtain ⟨T,hT,hT8⟩ : ∃ T,T=min (8-f) (N-g)∧T≤8:=⟨_,rfl,by omega⟩
      have hcs:c<s.size:=by omega
      have hval:=Lib.hid (VQ s a g T (by omega))
      have hbyte:=XQ s c f T hcs (by omega)
      rw [← hcf] at hbyte
      rw [hbyte] at hval
      have hvl:=jh s a g
      have hor:=Lib.hid (zi6 (zu s a g) g s[c].toNat f T hvl (by omega) s[c].toNat_lt hT8 hf7)
      have hmod:((a+g:Nat):Int)%8=(f:Int):=by omega
      have hdiv:((a+g:Nat):Int)/8=(c:Int):=by omega
      have hcs2:(c:Int)<(s.size:Int):=by omega
      have hagb:((a+g:Nat):Int)≤8796093022208:=by have:=hRr.2; omega
      generalize zu s a g=v at *
      generalize hag:a+g=ag at *
      have HAG:=Lib.hid hag
      have HCF:=Lib.hid hcf
      have HT:=Lib.hid hT
      clear hag hbyte hcf hT
      go_upto_region 9 with fail
      go_cut [6,7] (fun s6 s7 wx=>s6 = .int .i64 (f:Nat)∧s7 = .int .i64 (T:Nat)∧wr=wx)
      case first =>
       go_wp2
       all_goals go_meet
       all_goals (have hTo:=HT.out; refine ⟨?_,?_,?_⟩<;>first | rfl | (congr 1; done) | (congr 1; omega))
      case rest =>
       obtain ⟨rfl,rfl,rfl⟩:=hcut
       go_wp2
       go_quiet (fail)
       go_wp2
       go_roundg (N-(g+T))
       case measure=>have:=HT.out; omega
       case rel =>
        refine ⟨g+T,by have:=HT.out; omega,rfl,by go_num,by rw [hval.out,← hor.out],?_,?_⟩
        · have e:(ag:Int)+(T:Int)=((a+(g+T):Nat):Int):=by have:=HAG.out; omega
          rw [e]
          exact ⟨(hRr.1.drewN _).set 1 _,by have:=HAG.out; have:=HT.out; omega⟩
        · exact (hU.drewN _).setCell (.inl (by simp)) _
    · have hgN:g=N:=by omega
      have hcz : ¬ (g:Int)<(N:Int):=by omega
      rw [hgN] at hRr ⊢
      have hcz2 : ¬ (N:Int)<(N:Int):=by omega
      clear hcz hgN
      generalize zu s a N=v at *
      go_wp2
      go_returns
      exact ⟨rfl,hRr,hU⟩
end Go.Proofs.YtfkcdnaghndgfaaGreatDoor
