/- Package entry: agree: its walk. -/
import Derived.Deep.RegionHeld3
import Derived.Test.YtfkcdnaghndgfaaGreatDoorQAQ
import Derived.Test.YtfkcdnaghndgfaaGreatDoorQAS
set_option linter.unusedVariables false
set_option linter.unusedSimpArgs false
set_option linter.unusedSectionVars false
namespace Go.Proofs.YtfkcdnaghndgfaaGreatDoor
open Go.RowKit
theorem zce {a b:ByteArray} (h:a≠b):(a.toList==b.toList)=false:=by
 rw [beq_eq_false_iff_ne]
 intro h2
 rw [ByteArray.toList_eq,ByteArray.toList_eq] at h2
 exact h (ByteArray.ext (Array.ext' h2))
theorem ziw (p p2:ByteArray) (m m2 k k2 pos pos2 l wh md:Int) (sum t t2:Nat) (w:World) :
 (binOp .eql 26 (.agg #[.string p,.int .i64 m,.int .u32 (sum:Nat),.int .i64 l,.int .i64 wh,.int .i64 k,.int .i64 md,.int .u32 (t:Nat),.int .i64 pos]) (.agg #[.string p2,.int .i64 m2,.int .u32 (sum:Nat),.int .i64 l,.int .i64 wh,.int .i64 k2,.int .i64 md,.int .u32 (t2:Nat),.int .i64 pos2])).run Tryz.prog w = .ok (.bool (decide (p=p2∧m=m2∧k=k2∧t=t2∧pos=pos2))) w:=by
 by_cases h0:p=p2
 · subst h0
   by_cases h1:m=m2
   · subst h1
     by_cases h2:k=k2
     · subst h2
       by_cases h3:t=t2
       · subst h3
         by_cases h4:pos=pos2
         · subst h4
           go_simp
         · have e:(pos==pos2)=false:=by simp [h4]
           have e2:decide (pos=pos2)=false:=decide_eq_false h4
           go_simp
       · have e:((t:Int)==(t2:Int))=false:=by simp; omega
         have e2:decide (t=t2)=false:=decide_eq_false h3
         go_simp
     · have e:(k==k2)=false:=by simp [h2]
       go_simp
   · have e:(m==m2)=false:=by simp [h1]
     go_simp
 · have e:=zce h0
   go_simp
set_option maxRecDepth 100000 in
set_option maxHeartbeats 6400000 in
theorem zdr (h r:RecD) (w:World) :
 Calls Tryz.prog 27 #[h.v,r.v] w fun e w'=>e = .returned (.bool (vQ h r))∧Upd [] w w':=by
 obtain ⟨p,m,sum,l,wh,k,md,t,pos⟩:=h
 obtain ⟨p2,m2,sum2,l2,wh2,k2,md2,t2,pos2⟩:=r
 unfold RecD.v vQ
 dsimp only
 have HQ:=Lib.hid (fun w=>ziw p p2 m m2 k k2 pos pos2 l2 wh2 md2 sum2 t t2 w)
 generalize decide (p=p2∧m=m2∧k=k2∧t=t2∧pos=pos2)=B at *
 have HA:=Lib.hid ((Blk.new w [.string p,.int .i64 m,.int .u32 (sum:Nat),.int .i64 l,.int .i64 wh,.int .i64 k,.int .i64 md,.int .u32 (t:Nat),.int .i64 pos] 26).alloc (.cells #[.string p2,.int .i64 m2,.int .u32 (sum2:Nat),.int .i64 l2,.int .i64 wh2,.int .i64 k2,.int .i64 md2,.int .u32 (t2:Nat),.int .i64 pos2] 26))
 have HB:Hid (Blk ((w.alloc (.cells #[.string p,.int .i64 m,.int .u32 (sum:Nat),.int .i64 l,.int .i64 wh,.int .i64 k,.int .i64 md,.int .u32 (t:Nat),.int .i64 pos] 26)).alloc (.cells #[.string p2,.int .i64 m2,.int .u32 (sum2:Nat),.int .i64 l2,.int .i64 wh2,.int .i64 k2,.int .i64 md2,.int .u32 (t2:Nat),.int .i64 pos2] 26)) (w.heap.size+1) [.string p2,.int .i64 m2,.int .u32 (sum2:Nat),.int .i64 l2,.int .i64 wh2,.int .i64 k2,.int .i64 md2,.int .u32 (t2:Nat),.int .i64 pos2] 26):=Lib.hid (by
  have h:=Blk.new (w.alloc (.cells #[.string p,.int .i64 m,.int .u32 (sum:Nat),.int .i64 l,.int .i64 wh,.int .i64 k,.int .i64 md,.int .u32 (t:Nat),.int .i64 pos] 26)) [.string p2,.int .i64 m2,.int .u32 (sum2:Nat),.int .i64 l2,.int .i64 wh2,.int .i64 k2,.int .i64 md2,.int .u32 (t2:Nat),.int .i64 pos2] 26
  simpa using h)
 have HU:=Lib.hid (((Upd.refl [] w).alloc (.cells #[.string p,.int .i64 m,.int .u32 (sum:Nat),.int .i64 l,.int .i64 wh,.int .i64 k,.int .i64 md,.int .u32 (t:Nat),.int .i64 pos] 26)).alloc (.cells #[.string p2,.int .i64 m2,.int .u32 (sum2:Nat),.int .i64 l2,.int .i64 wh2,.int .i64 k2,.int .i64 md2,.int .u32 (t2:Nat),.int .i64 pos2] 26))
 go_enter Tryz.func27,Tryz.ntmps27
 go_upto_region 1 with fail
 change Code.wp _ _ _ _ ((w.alloc (.cells #[.string p,.int .i64 m,.int .u32 (sum:Nat),.int .i64 l,.int .i64 wh,.int .i64 k,.int .i64 md,.int .u32 (t:Nat),.int .i64 pos] 26)).alloc (.cells #[.string p2,.int .i64 m2,.int .u32 (sum2:Nat),.int .i64 l2,.int .i64 wh2,.int .i64 k2,.int .i64 md2,.int .u32 (t2:Nat),.int .i64 pos2] 26))
 generalize (w.alloc (.cells #[.string p,.int .i64 m,.int .u32 (sum:Nat),.int .i64 l,.int .i64 wh,.int .i64 k,.int .i64 md,.int .u32 (t:Nat),.int .i64 pos] 26)).alloc (.cells #[.string p2,.int .i64 m2,.int .u32 (sum2:Nat),.int .i64 l2,.int .i64 wh2,.int .i64 k2,.int .i64 md2,.int .u32 (t2:Nat),.int .i64 pos2] 26)=w1 at *
 obtain ⟨b,hb⟩ : ∃ b,w.heap.size=b:=⟨_,rfl⟩
 obtain ⟨c,hc⟩ : ∃ c,b+1=c:=⟨_,rfl⟩
 rw [hb] at HA HB ⊢
 rw [hc] at HB ⊢
 have hbc:b≠c:=by omega
 have hcb:c≠b:=by omega
 have HW:=Lib.hid (show w.heap.size≤b by omega)
 clear hb hc
 have rA:=HB.out.all
 go_cut [4] (fun s4 wx=>s4 = .bool false∧Blk wx b [.string p,.int .i64 m,.int .u32 (sum2:Nat),.int .i64 l2,.int .i64 wh2,.int .i64 k,.int .i64 md2,.int .u32 (t:Nat),.int .i64 pos] 26∧Blk wx c [.string p2,.int .i64 m2,.int .u32 (sum2:Nat),.int .i64 l2,.int .i64 wh2,.int .i64 k2,.int .i64 md2,.int .u32 (t2:Nat),.int .i64 pos2] 26∧Upd [] w wx)
 case first =>
  have HA0:=Lib.hid HA.out.drew
  have HB0:=Lib.hid HB.out.drew
  have HU0:=Lib.hid HU.out.drew
  refine wp_region_held_drew (S:=fun w'=>Blk w' c [.string p2,.int .i64 m2,.int .u32 (sum2:Nat),.int .i64 l2,.int .i64 wh2,.int .i64 k2,.int .i64 md2,.int .u32 (t2:Nat),.int .i64 pos2] 26) (by kernel_rfl) HB.out.drew (fun hHeld=>hdN ?_)
  generalize w1.drew=W0 at *
  clear HA HB HU rA
  refine hdT 0 (some 5) ?_; refine hdT 1 (some 6) ?_ (hy:=by intro w0 hSw; have q0:=hSw.cell 6 rfl; go_simp; try with_reducible rfl)
  refine hdT 2 (some 7) ?_; refine hdT 3 (some 8) ?_ (hy:=by intro w0 hSw; have q0:=hSw.cell 2 rfl; go_simp; try with_reducible rfl)
  refine hdT 4 (some 9) ?_; refine hdT 5 (some 10) ?_ (hy:=by intro w0 hSw; have q0:=hSw.cell 3 rfl; go_simp; try with_reducible rfl)
  refine hdT 6 (some 11) ?_; refine hdT 7 (some 12) ?_ (hy:=by intro w0 hSw; have q0:=hSw.cell 4 rfl; go_simp; try with_reducible rfl)
  refine hdT 8 (some 13) ?_
  refine hdO 9 (fun K hK=>?_)
  have kc:=HA0.out.cell 6 rfl
  have kf:=HA0.out.frz 6
  go_simp
  go_wp2
  refine hK.out _ _ (HB0.out.setFar (a:=⟨b,6,none⟩) _ hcb) (fun hHeld=>hdN ?_)
  clear hK K
  have HA1:=Lib.hid (HA0.out.set 6 (.int .i64 md2))
  have HB1:=Lib.hid hHeld
  have HU1:=Lib.hid (HU0.out.setCell (p:=⟨b,6,none⟩) (.inr HW.out) (.int .i64 md2))
  generalize W0.setCell ⟨b,6,none⟩ (.int .i64 md2)=W1 at *
  clear kc kf HA0 HB0 HU0
  refine hdT 10 (some 14) ?_
  refine hdO 11 (fun K hK=>?_)
  have kc:=HA1.out.cell 2 rfl
  have kf:=HA1.out.frz 2
  go_simp
  go_wp2
  refine hK.out _ _ (HB1.out.setFar (a:=⟨b,2,none⟩) _ hcb) (fun hHeld=>hdN ?_)
  clear hK K
  have HA2:=Lib.hid (HA1.out.set 2 (.int .u32 (sum2:Nat)))
  have HB2:=Lib.hid hHeld
  have HU2:=Lib.hid (HU1.out.setCell (p:=⟨b,2,none⟩) (.inr HW.out) (.int .u32 (sum2:Nat)))
  generalize W1.setCell ⟨b,2,none⟩ (.int .u32 (sum2:Nat))=W2 at *
  clear kc kf HA1 HB1 HU1
  refine hdT 12 (some 15) ?_
  refine hdO 13 (fun K hK=>?_)
  have kc:=HA2.out.cell 3 rfl
  have kf:=HA2.out.frz 3
  go_simp
  go_wp2
  refine hK.out _ _ (HB2.out.setFar (a:=⟨b,3,none⟩) _ hcb) (fun hHeld=>hdN ?_)
  clear hK K
  have HA3:=Lib.hid (HA2.out.set 3 (.int .i64 l2))
  have HB3:=Lib.hid hHeld
  have HU3:=Lib.hid (HU2.out.setCell (p:=⟨b,3,none⟩) (.inr HW.out) (.int .i64 l2))
  generalize W2.setCell ⟨b,3,none⟩ (.int .i64 l2)=W3 at *
  clear kc kf HA2 HB2 HU2
  refine hdT 14 (some 16) ?_
  refine hdO 15 (fun K hK=>?_)
  have kc:=HA3.out.cell 4 rfl
  have kf:=HA3.out.frz 4
  go_simp
  go_wp2
  refine hK.out _ _ (HB3.out.setFar (a:=⟨b,4,none⟩) _ hcb) (fun hHeld=>hdN ?_)
  clear hK K
  have HA4:=Lib.hid (HA3.out.set 4 (.int .i64 wh2))
  have HB4:=Lib.hid hHeld
  have HU4:=Lib.hid (HU3.out.setCell (p:=⟨b,4,none⟩) (.inr HW.out) (.int .i64 wh2))
  generalize W3.setCell ⟨b,4,none⟩ (.int .i64 wh2)=W4 at *
  clear kc kf HA3 HB3 HU3
  refine wpAnyH_done (by kernel_rfl) ?_ 0
  go_wp2
  go_meet
  exact ⟨rfl,HA4.out,HB4.out,HU4.out⟩
 case rest =>
  obtain ⟨rfl,hA,hB,hU⟩:=hcut
  have HUF:=Lib.hid hU
  have aA:=hA.all
  have bA:=hB.all
  have HQ2:=HQ.out
  clear hA hB hU HA HB HU rA
  go_wp2
  go_returns
  exact ⟨rfl,HUF.out⟩
end Go.Proofs.YtfkcdnaghndgfaaGreatDoor
namespace Go.Proofs.YtfkcdnaghndgfaaGreatDoor
open Go.RowKit
abbrev Rdr (w:World) (b:Nat) (r:RS):Prop:=Blk w b r.cells 144
set_option maxRecDepth 100000 in
theorem qG (b:Nat) (r:RS) (w:World) (hB:Rdr w b r):Calls Tryz.prog 59 #[.pointer (some ⟨b,0,none⟩)] w fun e w'=>e = .returned (.bool (!r.bad))∧w=w':=by
 obtain ⟨s,p,bad⟩:=r
 unfold Rdr RS.cells at hB
 dsimp only at *
 have c2:=hB.cell 2 rfl
 go_enter Tryz.func59,Tryz.ntmps59
 go_wp2
 go_ret
 exact ⟨rfl,rfl⟩
theorem Yl (b:Nat) (r:RS) (w:World) (hB:Rdr w b r):Calls Tryz.prog 61 #[.pointer (some ⟨b,0,none⟩)] w fun e w'=>e = .returned (.int .i64 (r.p:Nat))∧w=w':=by
 obtain ⟨s,p,bad⟩:=r
 unfold Rdr RS.cells at hB
 dsimp only at *
 have c2:=hB.cell 1 rfl
 go_enter Tryz.func61,Tryz.ntmps61
 go_wp2
 go_ret
 exact ⟨rfl,rfl⟩
theorem zbN (b:Nat) (r:RS) (w:World) (hB:Rdr w b r) (hs:r.s.size≤1000000) (hp:r.p≤r.s.size):Calls Tryz.prog 138 #[.pointer (some ⟨b,0,none⟩)] w fun e w'=>e = .returned (.int .i64 ((r.s.size:Int)-(r.p:Nat)))∧Upd [] w w'∧Rdr w' b r:=by
 obtain ⟨s,p,bad⟩:=r
 unfold Rdr RS.cells at hB ⊢
 dsimp only at *
 have cA:=hB.all
 have HB:=Lib.hid hB
 clear hB
 go_enter Tryz.func138,Tryz.ntmps138
 go_wp2
 go_quiet (fail)
 go_wp2
 go_ret
 exact ⟨rfl,(Upd.refl _ _).drewN _,HB.out⟩
theorem jy (s:ByteArray) (w:World):Calls Tryz.prog 57 #[.string s] w fun e w'=>e = .returned (.pointer (some ⟨w.heap.size,0,none⟩))∧Rdr w' w.heap.size ⟨s,0,false⟩∧Upd [] w w':=by
 go_enter Tryz.func57,Tryz.ntmps57
 go_wp2
 go_ret
 exact ⟨rfl,Blk.new w [.string s,.int .i64 0,.bool false] 144,(Upd.refl _ _).alloc _⟩
set_option maxRecDepth 100000 in
theorem JZ (b n:Nat) (r:RS) (w:World) (hB:Rdr w b r) (hs:r.s.size≤1000000) (hp:r.p≤r.s.size) (hn:n≤10000000) :
 Calls Tryz.prog 94 #[.pointer (some ⟨b,0,none⟩),.int .i64 (n:Nat)] w fun e w'=>e = .returned (.string (zf (r.text n).1))∧Rdr w' b (r.text n).2∧Upd [b] w w':=by
 have HF:=Lib.hid (fun w hB=>qG b r w hB)
 have HL:=Lib.hid (fun w hB=>zbN b r w hB hs hp)
 have HB:=Lib.hid hB
 obtain ⟨s,p,bad⟩:=r
 dsimp only at *
 cases bad with
 | true =>
   have HT:=Lib.hid (RS.text_bad (r:=⟨s,p,true⟩) rfl n)
   clear hB
   go_enter Tryz.func94,Tryz.ntmps94
   go_wp2_with fail
   refine (HF.out _ HB.out).mono ?_
   rintro e w1 ⟨rfl,rfl⟩
   go_wp2
   go_ret
   exact ⟨by rw [HT.out]; rfl,by rw [HT.out]; exact HB.out,Upd.refl _ _⟩
 | false =>
   by_cases hc:s.size-p<n
   · have HT:=Lib.hid (RS.text_short (s:=s) (p:=p) n hc)
     have hcz:(s.size:Int)-(p:Int)<(n:Int):=by omega
     have hn0 : ¬ (n:Int)<0:=by omega
     clear hB
     go_enter Tryz.func94,Tryz.ntmps94
     go_wp2_with fail
     refine (HF.out _ HB.out).mono ?_
     rintro e w1 ⟨rfl,rfl⟩
     go_wp2_with fail
     refine (HL.out _ HB.out).mono ?_
     rintro e w2 ⟨rfl,hU,hB2⟩
     have c2:=Blk.cell hB2 2 rfl
     have f2:=Blk.frz hB2 2
     have HB2:=Lib.hid hB2
     have HU:=Lib.hid hU
     clear hB2 hU
     go_wp2
     go_ret
     refine ⟨by rw [HT.out]; rfl,?_,?_⟩
     · rw [HT.out]; exact Blk.set HB2.out 2 _
     · exact (HU.out.mono (by simp)).setCell (.inl (by simp)) _
   · have hc':n≤s.size-p:=by omega
     have HT:=Lib.hid (RS.text_fine (s:=s) (p:=p) n hc')
     have HST:Hid (zf (((zc s).drop p).take n)=s.extract p (p+n)):=Lib.hid (by
      rw [← zx (s.extract p (p+n)),zF,Nat.add_sub_cancel_left])
     have hcz : ¬ (s.size:Int)-(p:Int)<(n:Int):=by omega
     have hn0 : ¬ (n:Int)<0:=by omega
     clear hB
     go_enter Tryz.func94,Tryz.ntmps94
     go_wp2_with fail
     refine (HF.out _ HB.out).mono ?_
     rintro e w1 ⟨rfl,rfl⟩
     go_wp2_with fail
     refine (HL.out _ HB.out).mono ?_
     rintro e w2 ⟨rfl,hU,hB2⟩
     have c1:=Blk.cell hB2 1 rfl
     have f1:=Blk.frz hB2 1
     have HB2:=Lib.hid hB2
     have HU:=Lib.hid hU
     clear hB2 hU
     go_wp2
     have hB3:Blk (w2.setCell ⟨b,1,none⟩ (.int .i64 ((p:Int)+(n:Int)))) b [.string s,.int .i64 ((p+n:Nat):Int),.bool false] 144:=Blk.set HB2.out 1 _
     have hU3:Upd [b] w (w2.setCell ⟨b,1,none⟩ (.int .i64 ((p:Int)+(n:Int)))):=(HU.out.mono (by simp)).setCell (.inl (by simp)) _
     generalize w2.setCell ⟨b,1,none⟩ (.int .i64 ((p:Int)+(n:Int)))=w3 at *
     have dA:=hB3.all
     have HB3:=Lib.hid hB3
     have HU3:=Lib.hid hU3
     clear hB3 hU3
     go_quiet (fail)
     go_wp2
     go_ret
     refine ⟨?_,?_,HU3.out.drewN _⟩
     · rw [HT.out]
       show _=Ending.returned (.string (zf (((zc s).drop p).take n)))
       rw [HST.out]; rfl
     · rw [HT.out]; exact HB3.out
end Go.Proofs.YtfkcdnaghndgfaaGreatDoor
namespace Go.Proofs.YtfkcdnaghndgfaaGreatDoor
open Go.RowKit
theorem zdn (r:RS) (k:Nat) : ∃ ok,zgX (zf (r.text k).1) k = .tuple #[.int .u64 ((r.num k).1:Nat),.bool ok]:=by
 have hb:zc (zf (r.text k).1)=(r.text k).1:=zv _ (r.text_lt k)
 unfold zgX RS.num
 rw [zu,hb]
 by_cases h:k≤(r.text k).1.length
 · rw [if_pos h,List.take_of_length_le (r.text_len k)]; exact ⟨_,rfl⟩
 · rw [if_neg h]
   have h0:(r.text k).1=[]:=by
    unfold RS.text at h ⊢
    repeat' split at h
    · rename_i h1; rw [if_pos h1]
    · rename_i h1 h2; rw [if_neg h1,if_pos h2]
    · rename_i h1 h2
      exfalso
      dsimp only at h
      rw [List.length_take,List.length_drop] at h
      unfold RS.l at h
      rw [zd] at h
      omega
   rw [h0]
   exact ⟨_,rfl⟩
set_option maxRecDepth 100000 in
theorem yk (b k v:Nat) (r r':RS) (w:World) (h:r.num k=(v,r')) (hB:Rdr w b r) (hs:r.s.size≤1000000) (hp:r.p≤r.s.size) (hk:k≤8) :
 Calls Tryz.prog 93 #[.pointer (some ⟨b,0,none⟩),.int .i64 (k:Nat)] w fun e w'=>e = .returned (.int .u64 (v:Nat))∧Rdr w' b r'∧Upd [b] w w':=by
 have HT:=Lib.hid (JZ b k r w hB hs hp (by omega))
 have hz:(zf (r.text k).1).size≤1000000:=by rw [zu]; have:=r.text_len k; omega
 have HG:=Lib.hid (fun w=>zhB (zf (r.text k).1) k w hz hk)
 obtain ⟨ok,hok⟩:=zdn r k
 rw [hok,h] at HG
 have h2:(r.text k).2=r':=by have:=congrArg Prod.snd h; exact this
 rw [h2] at HT
 have hk8:(k:Int)≤8:=by omega
 have hk0:(0:Int)≤(k:Int):=by omega
 have HMX:max (k:Int) 0=(k:Int):=by omega
 clear hok h h2
 generalize zf (r.text k).1=S at *
 go_enter Tryz.func93,Tryz.ntmps93
 go_wp2_with fail
 refine HT.out.mono ?_
 rintro e w1 ⟨rfl,hB1,hU1⟩
 have HB1:=Lib.hid hB1
 clear hB1
 go_wp2_with fail
 try rw [HMX]
 refine (HG.out _).mono ?_
 rintro e w2 ⟨rfl,hU2⟩
 go_wp2
 go_ret
 exact ⟨rfl,HB1.out.upd hU2 (by simp),hU1.then (hU2.mono (by simp))⟩
theorem zb7 (b n:Nat) (r:RS) (w:World) (hB:Rdr w b r) (hs:r.s.size≤1000000) (hp:r.p≤r.s.size) (hn:n≤10000000) :
 Calls Tryz.prog 95 #[.pointer (some ⟨b,0,none⟩),.int .i64 (n:Nat)] w fun e w'=>e = .returned (.tuple #[])∧Rdr w' b (r.text n).2∧Upd [b] w w':=by
 have HT:=Lib.hid (JZ b n r w hB hs hp hn)
 go_enter Tryz.func95,Tryz.ntmps95
 go_wp2_with fail
 refine HT.out.mono ?_
 rintro e w1 ⟨rfl,hF⟩
 go_wp2
 go_end0
 exact ⟨rfl,hF⟩
def HdD.cells (h:HdD):List Value:=[.string .empty,.int .i64 (h.m:Nat),.int .u32 (h.sum:Nat),.int .i64 (h.l:Nat),.int .i64 (h.wh:Nat),.int .i64 0,.int .i64 0,.int .u32 (h.t:Nat),.int .i64 0,.int .u64 (h.beg:Nat),.int .u64 (h.flags:Nat),.string (zf h.name)]
theorem Blk.set12 {w:World} {b:Nat} {a0 a1 a2 a3 a4 a5 a6 a7 a8 a9 a10 a11:Value} {t:TypeId} (h:Blk w b [a0,a1,a2,a3,a4,a5,a6,a7,a8,a9,a10,a11] t) (v0 v1 v2 v3 v4 v5 v6 v7 v8 v9 v10 v11:Value):Blk ((((((((((((w.setCell ⟨b,0,none⟩ v0).setCell ⟨b,1,none⟩ v1).setCell ⟨b,2,none⟩ v2).setCell ⟨b,3,none⟩ v3).setCell ⟨b,4,none⟩ v4).setCell ⟨b,5,none⟩ v5).setCell ⟨b,6,none⟩ v6).setCell ⟨b,7,none⟩ v7).setCell ⟨b,8,none⟩ v8).setCell ⟨b,9,none⟩ v9).setCell ⟨b,10,none⟩ v10).setCell ⟨b,11,none⟩ v11) b [v0,v1,v2,v3,v4,v5,v6,v7,v8,v9,v10,v11] t:=(Blk.set (Blk.set (Blk.set (Blk.set (Blk.set (Blk.set (Blk.set (Blk.set (Blk.set (Blk.set (Blk.set (Blk.set h 0 v0) 1 v1) 2 v2) 3 v3) 4 v4) 5 v5) 6 v6) 7 v7) 8 v8) 9 v9) 10 v10) 11 v11)
theorem Upd.set12 {fp:List Nat} {w0 w:World} {b:Nat} (h:Upd fp w0 w) (hb:b∈fp∨w0.heap.size≤b) (v0 v1 v2 v3 v4 v5 v6 v7 v8 v9 v10 v11:Value):Upd fp w0 ((((((((((((w.setCell ⟨b,0,none⟩ v0).setCell ⟨b,1,none⟩ v1).setCell ⟨b,2,none⟩ v2).setCell ⟨b,3,none⟩ v3).setCell ⟨b,4,none⟩ v4).setCell ⟨b,5,none⟩ v5).setCell ⟨b,6,none⟩ v6).setCell ⟨b,7,none⟩ v7).setCell ⟨b,8,none⟩ v8).setCell ⟨b,9,none⟩ v9).setCell ⟨b,10,none⟩ v10).setCell ⟨b,11,none⟩ v11):=(Upd.setCell (Upd.setCell (Upd.setCell (Upd.setCell (Upd.setCell (Upd.setCell (Upd.setCell (Upd.setCell (Upd.setCell (Upd.setCell (Upd.setCell (Upd.setCell h (p:=⟨b,0,none⟩) hb v0) (p:=⟨b,1,none⟩) hb v1) (p:=⟨b,2,none⟩) hb v2) (p:=⟨b,3,none⟩) hb v3) (p:=⟨b,4,none⟩) hb v4) (p:=⟨b,5,none⟩) hb v5) (p:=⟨b,6,none⟩) hb v6) (p:=⟨b,7,none⟩) hb v7) (p:=⟨b,8,none⟩) hb v8) (p:=⟨b,9,none⟩) hb v9) (p:=⟨b,10,none⟩) hb v10) (p:=⟨b,11,none⟩) hb v11)
theorem Blk.far12 {w:World} {d b:Nat} {cs:List Value} {t:TypeId} (h:Blk w d cs t) (hb:d≠b) (v0 v1 v2 v3 v4 v5 v6 v7 v8 v9 v10 v11:Value):Blk ((((((((((((w.setCell ⟨b,0,none⟩ v0).setCell ⟨b,1,none⟩ v1).setCell ⟨b,2,none⟩ v2).setCell ⟨b,3,none⟩ v3).setCell ⟨b,4,none⟩ v4).setCell ⟨b,5,none⟩ v5).setCell ⟨b,6,none⟩ v6).setCell ⟨b,7,none⟩ v7).setCell ⟨b,8,none⟩ v8).setCell ⟨b,9,none⟩ v9).setCell ⟨b,10,none⟩ v10).setCell ⟨b,11,none⟩ v11) d cs t:=(Blk.setFar (Blk.setFar (Blk.setFar (Blk.setFar (Blk.setFar (Blk.setFar (Blk.setFar (Blk.setFar (Blk.setFar (Blk.setFar (Blk.setFar (Blk.setFar h (a:=⟨b,0,none⟩) v0 hb) (a:=⟨b,1,none⟩) v1 hb) (a:=⟨b,2,none⟩) v2 hb) (a:=⟨b,3,none⟩) v3 hb) (a:=⟨b,4,none⟩) v4 hb) (a:=⟨b,5,none⟩) v5 hb) (a:=⟨b,6,none⟩) v6 hb) (a:=⟨b,7,none⟩) v7 hb) (a:=⟨b,8,none⟩) v8 hb) (a:=⟨b,9,none⟩) v9 hb) (a:=⟨b,10,none⟩) v10 hb) (a:=⟨b,11,none⟩) v11 hb)
theorem za6 {fn:Func} {p:Tmp} (h:fn.results = #[.cell p 95]) (tmps:Array Value) (w:World) (g:Nat) (c0 c1 c2 c3 c4 c5 c6 c7 c8 c9 c10 c11:Value) (hp:tmps.getD p undef = .pointer (some ⟨g,0,none⟩)) (hB:Blk w g [c0,c1,c2,c3,c4,c5,c6,c7,c8,c9,c10,c11] 95) :
 (results fn tmps).run Tryz.prog w = .ok (.agg #[c0,c1,c2,c3,c4,c5,c6,c7,c8,c9,c10,c11]) w:=by
 have h0:=hB.cell 0 rfl
 have h1:=hB.cell 1 rfl
 have h2:=hB.cell 2 rfl
 have h3:=hB.cell 3 rfl
 have h4:=hB.cell 4 rfl
 have h5:=hB.cell 5 rfl
 have h6:=hB.cell 6 rfl
 have h7:=hB.cell 7 rfl
 have h8:=hB.cell 8 rfl
 have h9:=hB.cell 9 rfl
 have h10:=hB.cell 10 rfl
 have h11:=hB.cell 11 rfl
 have hp2:tmps[p]?.getD undef = .pointer (some ⟨g,0,none⟩):=by rw [← hp]; simp
 simp [results,h,go_sem,hp2,h0,h1,h2,h3,h4,h5,h6,h7,h8,h9,h10,h11]
theorem RS.numL (r:RS) (k:Nat) (o:r.Ok) (s:r.s.size≤1000000) (hk:k≤8) : ∃ v r',r.num k=(v,r')∧v<256^k∧r'.Ok∧r'.s.size≤1000000∧Hid (∀ b w,Rdr w b r→Calls Tryz.prog 93 #[.pointer (some ⟨b,0,none⟩),.int .i64 (k:Nat)] w fun e w'=>e = .returned (.int .u64 (v:Nat))∧Rdr w' b r'∧Upd [b] w w') :=
 ⟨_,_,rfl,RS.num_lt r k,RS.num_ok o k,by rw [RS.text_s]; exact s,Lib.hid (fun b w h=>yk b k _ r _ w rfl h s o hk)⟩
def Fd (w0:World) (b h:Nat) (T:TypeId) (r:RS) (cs:List Value) (w:World):Prop:=w0.heap.size≤h∧h≠b∧Rdr w b r∧Blk w h cs T∧Upd [b] w0 w
theorem Fd.num {w0 w w':World} {b h:Nat} {T:TypeId} {r r':RS} {cs:List Value} (S:Fd w0 b h T r cs w) (hR:Rdr w' b r') (hu:Upd [b] w w'):Fd w0 b h T r' cs w':=⟨S.1,S.2.1,hR,S.2.2.2.1.upd hu (by simpa using S.2.1),S.2.2.2.2.then hu⟩
theorem Fd.set {w0 w:World} {b h:Nat} {T:TypeId} {r:RS} {cs:List Value} (S:Fd w0 b h T r cs w) (i:Nat) (v:Value):Fd w0 b h T r (cs.set i v) (w.setCell ⟨h,i,none⟩ v):=⟨S.1,S.2.1,Blk.setFar S.2.2.1 v (Ne.symm S.2.1),S.2.2.2.1.set i v,S.2.2.2.2.setCell (p:=⟨h,i,none⟩) (.inr S.1) v⟩
set_option maxRecDepth 100000 in
set_option maxHeartbeats 4000000 in
theorem zcd (b:Nat) (r:RS) (w:World) (hB:Rdr w b r) (hs:r.s.size≤1000000) (hp:r.p≤r.s.size) :
 Calls Tryz.prog 58 #[.pointer (some ⟨b,0,none⟩)] w fun e w'=>e = .returned (.agg (hdP r).1.cells.toArray)∧Rdr w' b (hdP r).2∧Upd [b] w w':=by
 obtain ⟨va,ra,ha,ba,oa,sa,Na⟩:=RS.numL r 4 hp hs (by omega)
 obtain ⟨vb,rb,hb,bb,ob,sb,Nb⟩:=RS.numL ra 2 oa sa (by omega)
 obtain ⟨vf,rf,hf,bf,of,sf,Nf⟩:=RS.numL rb 2 ob sb (by omega)
 obtain ⟨vm,rm,hm,bm,om,sm,Nm⟩:=RS.numL rf 2 of sf (by omega)
 obtain ⟨vt,rt,ht,bt,ot,st,Nt⟩:=RS.numL rm 4 om sm (by omega)
 obtain ⟨vu,ru,hu,bu,ou,su,Nu⟩:=RS.numL rt 4 ot st (by omega)
 obtain ⟨vl,rl,hl,bl,ol,sl,Nl⟩:=RS.numL ru 4 ou su (by omega)
 obtain ⟨vwh,rwh,hwh,bwh,owh,swh,Nwh⟩:=RS.numL rl 4 ol sl (by omega)
 obtain ⟨vn,rn,hn,bn,on,sn,Nn⟩:=RS.numL rwh 2 owh swh (by omega)
 obtain ⟨vmo,rmo,hmo,bmo,omo,smo,Nmo⟩:=RS.numL rn 2 on sn (by omega)
 have HD:Hid (hdP r=(⟨va,vf,vm,vt,vu,vl,vwh,(rmo.text vn).1⟩,((rmo.text vn).2.text vmo).2)):=Lib.hid (by
  unfold hdP
  simp only [ha,hb,hf,hm,ht,hu,hl,hwh,hn,hmo])
 have onm:=RS.text_ok omo vn
 have snm:(rmo.text vn).2.s.size≤1000000:=by rw [RS.text_s]; exact smo
 clear ha hb hf hm ht hu hl hwh hn hmo
 simp only [Nat.reducePow] at ba bb bf bm bt bu bl bwh bn bmo
 have S:Hid (Fd w b w.heap.size 95 r [.string { data := #[] },.int .i64 0,.int .u32 0,.int .i64 0,.int .i64 0,.int .i64 0,.int .i64 0,.int .u32 0,.int .i64 0,.int .u64 0,.int .u64 0,.string { data := #[] }] (w.alloc (.cells #[.string { data := #[] },.int .i64 0,.int .u32 0,.int .i64 0,.int .i64 0,.int .i64 0,.int .i64 0,.int .u32 0,.int .i64 0,.int .u64 0,.int .u64 0,.string { data := #[] }] 95))):=Lib.hid ⟨Nat.le_refl _,by have:=hB.lt; omega,hB.alloc _,Blk.new w [.string { data := #[] },.int .i64 0,.int .u32 0,.int .i64 0,.int .i64 0,.int .i64 0,.int .i64 0,.int .u32 0,.int .i64 0,.int .u64 0,.int .u64 0,.string { data := #[] }] 95,(Upd.refl [b] w).alloc _⟩
 clear hB
 go_enter Tryz.func58,Tryz.ntmps58
 go_wp2_with fail
 generalize w.heap.size=h0 at *
 refine (Na.out _ _ S.out.2.2.1).mono ?_
 rintro e x ⟨rfl,hR,hu⟩
 have S:=Lib.hid (S.out.num hR hu)
 clear hR hu Na
 have cA:=S.out.2.2.2.1.all
 have fA:=S.out.2.2.2.1.frz
 go_wp2_with fail
 clear cA fA
 have S:=Lib.hid (S.out.set 9 (.int .u64 (va:Nat)))
 simp only [List.set_cons_zero,List.set_cons_succ] at S
 refine (Nb.out _ _ S.out.2.2.1).mono ?_
 rintro e x ⟨rfl,hR,hu⟩
 have S:=Lib.hid (S.out.num hR hu)
 clear hR hu Nb
 go_wp2_with fail
 refine (Nf.out _ _ S.out.2.2.1).mono ?_
 rintro e x ⟨rfl,hR,hu⟩
 have S:=Lib.hid (S.out.num hR hu)
 clear hR hu Nf
 have cA:=S.out.2.2.2.1.all
 have fA:=S.out.2.2.2.1.frz
 go_wp2_with fail
 clear cA fA
 have S:=Lib.hid (S.out.set 10 (.int .u64 (vf:Nat)))
 simp only [List.set_cons_zero,List.set_cons_succ] at S
 refine (Nm.out _ _ S.out.2.2.1).mono ?_
 rintro e x ⟨rfl,hR,hu⟩
 have S:=Lib.hid (S.out.num hR hu)
 clear hR hu Nm
 have cA:=S.out.2.2.2.1.all
 have fA:=S.out.2.2.2.1.frz
 go_wp2_with fail
 clear cA fA
 have S:=Lib.hid (S.out.set 1 (.int .i64 (vm:Nat)))
 simp only [List.set_cons_zero,List.set_cons_succ] at S
 refine (Nt.out _ _ S.out.2.2.1).mono ?_
 rintro e x ⟨rfl,hR,hu⟩
 have S:=Lib.hid (S.out.num hR hu)
 clear hR hu Nt
 have cA:=S.out.2.2.2.1.all
 have fA:=S.out.2.2.2.1.frz
 go_wp2_with fail
 clear cA fA
 have S:=Lib.hid (S.out.set 7 (.int .u32 (vt:Nat)))
 simp only [List.set_cons_zero,List.set_cons_succ] at S
 refine (Nu.out _ _ S.out.2.2.1).mono ?_
 rintro e x ⟨rfl,hR,hu⟩
 have S:=Lib.hid (S.out.num hR hu)
 clear hR hu Nu
 have cA:=S.out.2.2.2.1.all
 have fA:=S.out.2.2.2.1.frz
 go_wp2_with fail
 clear cA fA
 have S:=Lib.hid (S.out.set 2 (.int .u32 (vu:Nat)))
 simp only [List.set_cons_zero,List.set_cons_succ] at S
 refine (Nl.out _ _ S.out.2.2.1).mono ?_
 rintro e x ⟨rfl,hR,hu⟩
 have S:=Lib.hid (S.out.num hR hu)
 clear hR hu Nl
 go_wp2_with fail
 refine (Nwh.out _ _ S.out.2.2.1).mono ?_
 rintro e x ⟨rfl,hR,hu⟩
 have S:=Lib.hid (S.out.num hR hu)
 clear hR hu Nwh
 have cA:=S.out.2.2.2.1.all
 have fA:=S.out.2.2.2.1.frz
 go_wp2_with fail
 clear cA fA
 have S:=Lib.hid ((S.out.set 3 (.int .i64 (vl:Nat))).set 4 (.int .i64 (vwh:Nat)))
 simp only [List.set_cons_zero,List.set_cons_succ] at S
 refine (Nn.out _ _ S.out.2.2.1).mono ?_
 rintro e x ⟨rfl,hR,hu⟩
 have S:=Lib.hid (S.out.num hR hu)
 clear hR hu Nn
 go_wp2_with fail
 refine (Nmo.out _ _ S.out.2.2.1).mono ?_
 rintro e x ⟨rfl,hR,hu⟩
 have S:=Lib.hid (S.out.num hR hu)
 clear hR hu Nmo
 go_wp2_with fail
 refine (JZ b vn rmo _ S.out.2.2.1 smo omo (by omega)).mono ?_
 rintro e x ⟨rfl,hR,hu⟩
 have S:=Lib.hid (S.out.num hR hu)
 clear hR hu
 have cA:=S.out.2.2.2.1.all
 have fA:=S.out.2.2.2.1.frz
 go_wp2_with fail
 clear cA fA
 have S:=Lib.hid (S.out.set 11 (.string (zf (rmo.text vn).1)))
 simp only [List.set_cons_zero,List.set_cons_succ] at S
 refine (zb7 b vmo _ _ S.out.2.2.1 snm onm (by omega)).mono ?_
 rintro e x ⟨rfl,hR,hu⟩
 have S:=Lib.hid (S.out.num hR hu)
 clear hR hu
 have cA:=S.out.2.2.2.1.all
 have fA:=S.out.2.2.2.1.frz
 go_wp2
 (try simp only [Exit.inBlock,Exit.then]); refine bodyPost_ret (za6 rfl _ _ h0 _ _ _ _ _ _ _ _ _ _ _ _ rfl (Blk.set12 S.out.2.2.2.1 _ _ _ _ _ _ _ _ _ _ _ _)) rfl ⟨?_,?_,Upd.set12 S.out.2.2.2.2 (.inr S.out.1) _ _ _ _ _ _ _ _ _ _ _ _⟩
 · rw [HD.out]; rfl
 · rw [HD.out]; exact Blk.far12 S.out.2.2.1 (Ne.symm S.out.2.1) _ _ _ _ _ _ _ _ _ _ _ _
end Go.Proofs.YtfkcdnaghndgfaaGreatDoor
