/- Package field: Reader: walks. -/
import Derived.Test.YtfkcdnaghndgfaaGreatDoorQAT
import Derived.Test.YtfkcdnaghndgfaaGreatDoorQAS
import Derived.WalkKit
import Derived.Handy
import Derived.Outline
import Derived.BigQuiet
import Derived.Deep.CutBlock
import Derived.Deep.DeepCutAuto
import Derived.Deep.DeepFit
import Derived.Deep.Light
import Derived.Deep.LoopGhost
import Derived.Deep.QuietTactic
import Derived.Deep.RegionHeld3
import Derived.Deep.RegionLaw
import Derived.IntWalk
import Derived.Laws.BitsAllLaws
import Derived.Lib.MinMax
import Derived.StillTailTactics
import Derived.WalkSpells
import Derived.Lib.Hide
import Derived.Test.YtfkcdnaghndgfaaGreatDoorQAR
set_option linter.unusedVariables false
set_option linter.unusedSimpArgs false
set_option linter.unusedSectionVars false
namespace Go.Proofs.YtfkcdnaghndgfaaGreatDoor
open Go.RowKit
abbrev Rdr (w:World) (b:Nat) (r:RS):Prop:=Blk w b r.cells 144
set_option maxRecDepth 100000 in
theorem qS (b:Nat) (r:RS) (w:World) (hB:Rdr w b r):Calls Tryz.prog 59 #[.pointer (some ⟨b,0,none⟩)] w fun e w'=>e = .returned (.bool (!r.bad))∧w=w':=by
 obtain ⟨s,p,bad⟩:=r
 unfold Rdr RS.cells at hB
 dsimp only at *
 have c2:=hB.cell 2 rfl
 go_enter Tryz.func59,Tryz.ntmps59
 go_wp2
 go_ret
 exact ⟨rfl,rfl⟩
theorem ZZ (b:Nat) (r:RS) (w:World) (hB:Rdr w b r):Calls Tryz.prog 61 #[.pointer (some ⟨b,0,none⟩)] w fun e w'=>e = .returned (.int .i64 (r.p:Nat))∧w=w':=by
 obtain ⟨s,p,bad⟩:=r
 unfold Rdr RS.cells at hB
 dsimp only at *
 have c2:=hB.cell 1 rfl
 go_enter Tryz.func61,Tryz.ntmps61
 go_wp2
 go_ret
 exact ⟨rfl,rfl⟩
theorem zcv (b:Nat) (r:RS) (w:World) (hB:Rdr w b r) (hs:r.s.size≤1000000) (hp:r.p≤r.s.size):Calls Tryz.prog 138 #[.pointer (some ⟨b,0,none⟩)] w fun e w'=>e = .returned (.int .i64 ((r.s.size:Int)-(r.p:Nat)))∧Upd [] w w'∧Rdr w' b r:=by
 obtain ⟨s,p,bad⟩:=r
 unfold Rdr RS.cells at hB ⊢
 dsimp only at *
 have cA:=hB.all
 have HB:=Lib.hid hB
 clear hB
 go_enter Tryz.func138,Tryz.ntmps138
 go_wp2
 go_quiet (fail)
 go_wp2
 go_ret
 exact ⟨rfl,(Upd.refl _ _).drewN _,HB.out⟩
theorem jS (s:ByteArray) (w:World):Calls Tryz.prog 57 #[.string s] w fun e w'=>e = .returned (.pointer (some ⟨w.heap.size,0,none⟩))∧Rdr w' w.heap.size ⟨s,0,false⟩∧Upd [] w w':=by
 go_enter Tryz.func57,Tryz.ntmps57
 go_wp2
 go_ret
 exact ⟨rfl,Blk.new w [.string s,.int .i64 0,.bool false] 144,(Upd.refl _ _).alloc _⟩
set_option maxRecDepth 100000 in
theorem Jt (b n:Nat) (r:RS) (w:World) (hB:Rdr w b r) (hs:r.s.size≤1000000) (hp:r.p≤r.s.size) (hn:n≤10000000) :
 Calls Tryz.prog 94 #[.pointer (some ⟨b,0,none⟩),.int .i64 (n:Nat)] w fun e w'=>e = .returned (.string (zd (r.text n).1))∧Rdr w' b (r.text n).2∧Upd [b] w w':=by
 have HF:=Lib.hid (fun w hB=>qS b r w hB)
 have HL:=Lib.hid (fun w hB=>zcv b r w hB hs hp)
 have HB:=Lib.hid hB
 obtain ⟨s,p,bad⟩:=r
 dsimp only at *
 cases bad with
 | true =>
   have HT:=Lib.hid (RS.text_bad (r:=⟨s,p,true⟩) rfl n)
   clear hB
   go_enter Tryz.func94,Tryz.ntmps94
   go_wp2_with fail
   refine (HF.out _ HB.out).mono ?_
   rintro e w1 ⟨rfl,rfl⟩
   go_wp2
   go_ret
   exact ⟨by rw [HT.out]; rfl,by rw [HT.out]; exact HB.out,Upd.refl _ _⟩
 | false =>
   by_cases hc:s.size-p<n
   · have HT:=Lib.hid (RS.text_short (s:=s) (p:=p) n hc)
     have hcz:(s.size:Int)-(p:Int)<(n:Int):=by omega
     have hn0 : ¬ (n:Int)<0:=by omega
     clear hB
     go_enter Tryz.func94,Tryz.ntmps94
     go_wp2_with fail
     refine (HF.out _ HB.out).mono ?_
     rintro e w1 ⟨rfl,rfl⟩
     go_wp2_with fail
     refine (HL.out _ HB.out).mono ?_
     rintro e w2 ⟨rfl,hU,hB2⟩
     have c2:=Blk.cell hB2 2 rfl
     have f2:=Blk.frz hB2 2
     have HB2:=Lib.hid hB2
     have HU:=Lib.hid hU
     clear hB2 hU
     go_wp2
     go_ret
     refine ⟨by rw [HT.out]; rfl,?_,?_⟩
     · rw [HT.out]; exact Blk.set HB2.out 2 _
     · exact (HU.out.mono (by simp)).setCell (.inl (by simp)) _
   · have hc':n≤s.size-p:=by omega
     have HT:=Lib.hid (RS.text_fine (s:=s) (p:=p) n hc')
     have HST:Hid (zd (((za s).drop p).take n)=s.extract p (p+n)):=Lib.hid (by
      rw [← zz (s.extract p (p+n)),zK,Nat.add_sub_cancel_left])
     have hcz : ¬ (s.size:Int)-(p:Int)<(n:Int):=by omega
     have hn0 : ¬ (n:Int)<0:=by omega
     clear hB
     go_enter Tryz.func94,Tryz.ntmps94
     go_wp2_with fail
     refine (HF.out _ HB.out).mono ?_
     rintro e w1 ⟨rfl,rfl⟩
     go_wp2_with fail
     refine (HL.out _ HB.out).mono ?_
     rintro e w2 ⟨rfl,hU,hB2⟩
     have c1:=Blk.cell hB2 1 rfl
     have f1:=Blk.frz hB2 1
     have HB2:=Lib.hid hB2
     have HU:=Lib.hid hU
     clear hB2 hU
     go_wp2
     have hB3:Blk (w2.setCell ⟨b,1,none⟩ (.int .i64 ((p:Int)+(n:Int)))) b [.string s,.int .i64 ((p+n:Nat):Int),.bool false] 144:=Blk.set HB2.out 1 _
     have hU3:Upd [b] w (w2.setCell ⟨b,1,none⟩ (.int .i64 ((p:Int)+(n:Int)))):=(HU.out.mono (by simp)).setCell (.inl (by simp)) _
     generalize w2.setCell ⟨b,1,none⟩ (.int .i64 ((p:Int)+(n:Int)))=w3 at *
     have dA:=hB3.all
     have HB3:=Lib.hid hB3
     have HU3:=Lib.hid hU3
     clear hB3 hU3
     go_quiet (fail)
     go_wp2
     go_ret
     refine ⟨?_,?_,HU3.out.drewN _⟩
     · rw [HT.out]
       show _=Ending.returned (.string (zd (((za s).drop p).take n)))
       rw [HST.out]; rfl
     · rw [HT.out]; exact HB3.out
end Go.Proofs.YtfkcdnaghndgfaaGreatDoor
namespace Go.Proofs.YtfkcdnaghndgfaaGreatDoor
open Go.RowKit
theorem ze0 (r:RS) (k:Nat) : ∃ ok,YK (zd (r.text k).1) k = .tuple #[.int .u64 ((r.num k).1:Nat),.bool ok]:=by
 have hb:za (zd (r.text k).1)=(r.text k).1:=zE _ (r.text_lt k)
 unfold YK RS.num
 rw [zq,hb]
 by_cases h:k≤(r.text k).1.length
 · rw [if_pos h,List.take_of_length_le (r.text_len k)]; exact ⟨_,rfl⟩
 · rw [if_neg h]
   have h0:(r.text k).1=[]:=by
    unfold RS.text at h ⊢
    repeat' split at h
    · rename_i h1; rw [if_pos h1]
    · rename_i h1 h2; rw [if_neg h1,if_pos h2]
    · rename_i h1 h2
      exfalso
      dsimp only at h
      rw [List.length_take,List.length_drop] at h
      unfold RS.l at h
      rw [zc] at h
      omega
   rw [h0]
   exact ⟨_,rfl⟩
set_option maxRecDepth 100000 in
theorem yi (b k v:Nat) (r r':RS) (w:World) (h:r.num k=(v,r')) (hB:Rdr w b r) (hs:r.s.size≤1000000) (hp:r.p≤r.s.size) (hk:k≤8) :
 Calls Tryz.prog 93 #[.pointer (some ⟨b,0,none⟩),.int .i64 (k:Nat)] w fun e w'=>e = .returned (.int .u64 (v:Nat))∧Rdr w' b r'∧Upd [b] w w':=by
 have HT:=Lib.hid (Jt b k r w hB hs hp (by omega))
 have hz:(zd (r.text k).1).size≤1000000:=by rw [zq]; have:=r.text_len k; omega
 have HG:=Lib.hid (fun w=>zhE (zd (r.text k).1) k w hz hk)
 obtain ⟨ok,hok⟩:=ze0 r k
 rw [hok,h] at HG
 have h2:(r.text k).2=r':=by have:=congrArg Prod.snd h; exact this
 rw [h2] at HT
 have hk8:(k:Int)≤8:=by omega
 have hk0:(0:Int)≤(k:Int):=by omega
 have HMX:max (k:Int) 0=(k:Int):=by omega
 clear hok h h2
 generalize zd (r.text k).1=S at *
 go_enter Tryz.func93,Tryz.ntmps93
 go_wp2_with fail
 refine HT.out.mono ?_
 rintro e w1 ⟨rfl,hB1,hU1⟩
 have HB1:=Lib.hid hB1
 clear hB1
 go_wp2_with fail
 try rw [HMX]
 refine (HG.out _).mono ?_
 rintro e w2 ⟨rfl,hU2⟩
 go_wp2
 go_ret
 exact ⟨rfl,HB1.out.upd hU2 (by simp),hU1.then (hU2.mono (by simp))⟩
theorem zbD (b n:Nat) (r:RS) (w:World) (hB:Rdr w b r) (hs:r.s.size≤1000000) (hp:r.p≤r.s.size) (hn:n≤10000000) :
 Calls Tryz.prog 95 #[.pointer (some ⟨b,0,none⟩),.int .i64 (n:Nat)] w fun e w'=>e = .returned (.tuple #[])∧Rdr w' b (r.text n).2∧Upd [b] w w':=by
 have HT:=Lib.hid (Jt b n r w hB hs hp hn)
 go_enter Tryz.func95,Tryz.ntmps95
 go_wp2_with fail
 refine HT.out.mono ?_
 rintro e w1 ⟨rfl,hF⟩
 go_wp2
 go_end0
 exact ⟨rfl,hF⟩
def HdD.cells (h:HdD):List Value:=[.string .empty,.int .i64 (h.m:Nat),.int .u32 (h.sum:Nat),.int .i64 (h.l:Nat),.int .i64 (h.wh:Nat),.int .i64 0,.int .i64 0,.int .u32 (h.t:Nat),.int .i64 0,.int .u64 (h.beg:Nat),.int .u64 (h.flags:Nat),.string (zd h.name)]
theorem Blk.set12 {w:World} {b:Nat} {a0 a1 a2 a3 a4 a5 a6 a7 a8 a9 a10 a11:Value} {t:TypeId} (h:Blk w b [a0,a1,a2,a3,a4,a5,a6,a7,a8,a9,a10,a11] t) (v0 v1 v2 v3 v4 v5 v6 v7 v8 v9 v10 v11:Value):Blk ((((((((((((w.setCell ⟨b,0,none⟩ v0).setCell ⟨b,1,none⟩ v1).setCell ⟨b,2,none⟩ v2).setCell ⟨b,3,none⟩ v3).setCell ⟨b,4,none⟩ v4).setCell ⟨b,5,none⟩ v5).setCell ⟨b,6,none⟩ v6).setCell ⟨b,7,none⟩ v7).setCell ⟨b,8,none⟩ v8).setCell ⟨b,9,none⟩ v9).setCell ⟨b,10,none⟩ v10).setCell ⟨b,11,none⟩ v11) b [v0,v1,v2,v3,v4,v5,v6,v7,v8,v9,v10,v11] t:=(Blk.set (Blk.set (Blk.set (Blk.set (Blk.set (Blk.set (Blk.set (Blk.set (Blk.set (Blk.set (Blk.set (Blk.set h 0 v0) 1 v1) 2 v2) 3 v3) 4 v4) 5 v5) 6 v6) 7 v7) 8 v8) 9 v9) 10 v10) 11 v11)
theorem Upd.set12 {fp:List Nat} {w0 w:World} {b:Nat} (h:Upd fp w0 w) (hb:b∈fp∨w0.heap.size≤b) (v0 v1 v2 v3 v4 v5 v6 v7 v8 v9 v10 v11:Value):Upd fp w0 ((((((((((((w.setCell ⟨b,0,none⟩ v0).setCell ⟨b,1,none⟩ v1).setCell ⟨b,2,none⟩ v2).setCell ⟨b,3,none⟩ v3).setCell ⟨b,4,none⟩ v4).setCell ⟨b,5,none⟩ v5).setCell ⟨b,6,none⟩ v6).setCell ⟨b,7,none⟩ v7).setCell ⟨b,8,none⟩ v8).setCell ⟨b,9,none⟩ v9).setCell ⟨b,10,none⟩ v10).setCell ⟨b,11,none⟩ v11):=(Upd.setCell (Upd.setCell (Upd.setCell (Upd.setCell (Upd.setCell (Upd.setCell (Upd.setCell (Upd.setCell (Upd.setCell (Upd.setCell (Upd.setCell (Upd.setCell h (p:=⟨b,0,none⟩) hb v0) (p:=⟨b,1,none⟩) hb v1) (p:=⟨b,2,none⟩) hb v2) (p:=⟨b,3,none⟩) hb v3) (p:=⟨b,4,none⟩) hb v4) (p:=⟨b,5,none⟩) hb v5) (p:=⟨b,6,none⟩) hb v6) (p:=⟨b,7,none⟩) hb v7) (p:=⟨b,8,none⟩) hb v8) (p:=⟨b,9,none⟩) hb v9) (p:=⟨b,10,none⟩) hb v10) (p:=⟨b,11,none⟩) hb v11)
theorem Blk.far12 {w:World} {d b:Nat} {cs:List Value} {t:TypeId} (h:Blk w d cs t) (hb:d≠b) (v0 v1 v2 v3 v4 v5 v6 v7 v8 v9 v10 v11:Value):Blk ((((((((((((w.setCell ⟨b,0,none⟩ v0).setCell ⟨b,1,none⟩ v1).setCell ⟨b,2,none⟩ v2).setCell ⟨b,3,none⟩ v3).setCell ⟨b,4,none⟩ v4).setCell ⟨b,5,none⟩ v5).setCell ⟨b,6,none⟩ v6).setCell ⟨b,7,none⟩ v7).setCell ⟨b,8,none⟩ v8).setCell ⟨b,9,none⟩ v9).setCell ⟨b,10,none⟩ v10).setCell ⟨b,11,none⟩ v11) d cs t:=(Blk.setFar (Blk.setFar (Blk.setFar (Blk.setFar (Blk.setFar (Blk.setFar (Blk.setFar (Blk.setFar (Blk.setFar (Blk.setFar (Blk.setFar (Blk.setFar h (a:=⟨b,0,none⟩) v0 hb) (a:=⟨b,1,none⟩) v1 hb) (a:=⟨b,2,none⟩) v2 hb) (a:=⟨b,3,none⟩) v3 hb) (a:=⟨b,4,none⟩) v4 hb) (a:=⟨b,5,none⟩) v5 hb) (a:=⟨b,6,none⟩) v6 hb) (a:=⟨b,7,none⟩) v7 hb) (a:=⟨b,8,none⟩) v8 hb) (a:=⟨b,9,none⟩) v9 hb) (a:=⟨b,10,none⟩) v10 hb) (a:=⟨b,11,none⟩) v11 hb)
theorem zb5 {fn:Func} {p:Tmp} (h:fn.results = #[.cell p 95]) (tmps:Array Value) (w:World) (g:Nat) (c0 c1 c2 c3 c4 c5 c6 c7 c8 c9 c10 c11:Value) (hp:tmps.getD p undef = .pointer (some ⟨g,0,none⟩)) (hB:Blk w g [c0,c1,c2,c3,c4,c5,c6,c7,c8,c9,c10,c11] 95) :
 (results fn tmps).run Tryz.prog w = .ok (.agg #[c0,c1,c2,c3,c4,c5,c6,c7,c8,c9,c10,c11]) w:=by
 have h0:=hB.cell 0 rfl
 have h1:=hB.cell 1 rfl
 have h2:=hB.cell 2 rfl
 have h3:=hB.cell 3 rfl
 have h4:=hB.cell 4 rfl
 have h5:=hB.cell 5 rfl
 have h6:=hB.cell 6 rfl
 have h7:=hB.cell 7 rfl
 have h8:=hB.cell 8 rfl
 have h9:=hB.cell 9 rfl
 have h10:=hB.cell 10 rfl
 have h11:=hB.cell 11 rfl
 have hp2:tmps[p]?.getD undef = .pointer (some ⟨g,0,none⟩):=by rw [← hp]; simp
 simp [results,h,go_sem,hp2,h0,h1,h2,h3,h4,h5,h6,h7,h8,h9,h10,h11]
theorem RS.numL (r:RS) (k:Nat) (o:r.Ok) (s:r.s.size≤1000000) (hk:k≤8) : ∃ v r',r.num k=(v,r')∧v<256^k∧r'.Ok∧r'.s.size≤1000000∧Hid (∀ b w,Rdr w b r→Calls Tryz.prog 93 #[.pointer (some ⟨b,0,none⟩),.int .i64 (k:Nat)] w fun e w'=>e = .returned (.int .u64 (v:Nat))∧Rdr w' b r'∧Upd [b] w w') :=
 ⟨_,_,rfl,RS.num_lt r k,RS.num_ok o k,by rw [RS.text_s]; exact s,Lib.hid (fun b w h=>yi b k _ r _ w rfl h s o hk)⟩
def Fd (w0:World) (b h:Nat) (T:TypeId) (r:RS) (cs:List Value) (w:World):Prop:=w0.heap.size≤h∧h≠b∧Rdr w b r∧Blk w h cs T∧Upd [b] w0 w
theorem Fd.num {w0 w w':World} {b h:Nat} {T:TypeId} {r r':RS} {cs:List Value} (S:Fd w0 b h T r cs w) (hR:Rdr w' b r') (hu:Upd [b] w w'):Fd w0 b h T r' cs w':=⟨S.1,S.2.1,hR,S.2.2.2.1.upd hu (by simpa using S.2.1),S.2.2.2.2.then hu⟩
theorem Fd.set {w0 w:World} {b h:Nat} {T:TypeId} {r:RS} {cs:List Value} (S:Fd w0 b h T r cs w) (i:Nat) (v:Value):Fd w0 b h T r (cs.set i v) (w.setCell ⟨h,i,none⟩ v):=⟨S.1,S.2.1,Blk.setFar S.2.2.1 v (Ne.symm S.2.1),S.2.2.2.1.set i v,S.2.2.2.2.setCell (p:=⟨h,i,none⟩) (.inr S.1) v⟩
set_option maxRecDepth 100000 in
set_option maxHeartbeats 4000000 in
theorem zbr (b:Nat) (r:RS) (w:World) (hB:Rdr w b r) (hs:r.s.size≤1000000) (hp:r.p≤r.s.size) :
 Calls Tryz.prog 58 #[.pointer (some ⟨b,0,none⟩)] w fun e w'=>e = .returned (.agg (hdP r).1.cells.toArray)∧Rdr w' b (hdP r).2∧Upd [b] w w':=by
 obtain ⟨va,ra,ha,ba,oa,sa,Na⟩:=RS.numL r 4 hp hs (by omega)
 obtain ⟨vb,rb,hb,bb,ob,sb,Nb⟩:=RS.numL ra 2 oa sa (by omega)
 obtain ⟨vf,rf,hf,bf,of,sf,Nf⟩:=RS.numL rb 2 ob sb (by omega)
 obtain ⟨vm,rm,hm,bm,om,sm,Nm⟩:=RS.numL rf 2 of sf (by omega)
 obtain ⟨vt,rt,ht,bt,ot,st,Nt⟩:=RS.numL rm 4 om sm (by omega)
 obtain ⟨vu,ru,hu,bu,ou,su,Nu⟩:=RS.numL rt 4 ot st (by omega)
 obtain ⟨vl,rl,hl,bl,ol,sl,Nl⟩:=RS.numL ru 4 ou su (by omega)
 obtain ⟨vwh,rwh,hwh,bwh,owh,swh,Nwh⟩:=RS.numL rl 4 ol sl (by omega)
 obtain ⟨vn,rn,hn,bn,on,sn,Nn⟩:=RS.numL rwh 2 owh swh (by omega)
 obtain ⟨vmo,rmo,hmo,bmo,omo,smo,Nmo⟩:=RS.numL rn 2 on sn (by omega)
 have HD:Hid (hdP r=(⟨va,vf,vm,vt,vu,vl,vwh,(rmo.text vn).1⟩,((rmo.text vn).2.text vmo).2)):=Lib.hid (by
  unfold hdP
  simp only [ha,hb,hf,hm,ht,hu,hl,hwh,hn,hmo])
 have onm:=RS.text_ok omo vn
 have snm:(rmo.text vn).2.s.size≤1000000:=by rw [RS.text_s]; exact smo
 clear ha hb hf hm ht hu hl hwh hn hmo
 simp only [Nat.reducePow] at ba bb bf bm bt bu bl bwh bn bmo
 have S:Hid (Fd w b w.heap.size 95 r [.string { data := #[] },.int .i64 0,.int .u32 0,.int .i64 0,.int .i64 0,.int .i64 0,.int .i64 0,.int .u32 0,.int .i64 0,.int .u64 0,.int .u64 0,.string { data := #[] }] (w.alloc (.cells #[.string { data := #[] },.int .i64 0,.int .u32 0,.int .i64 0,.int .i64 0,.int .i64 0,.int .i64 0,.int .u32 0,.int .i64 0,.int .u64 0,.int .u64 0,.string { data := #[] }] 95))):=Lib.hid ⟨Nat.le_refl _,by have:=hB.lt; omega,hB.alloc _,Blk.new w [.string { data := #[] },.int .i64 0,.int .u32 0,.int .i64 0,.int .i64 0,.int .i64 0,.int .i64 0,.int .u32 0,.int .i64 0,.int .u64 0,.int .u64 0,.string { data := #[] }] 95,(Upd.refl [b] w).alloc _⟩
 clear hB
 go_enter Tryz.func58,Tryz.ntmps58
 go_wp2_with fail
 generalize w.heap.size=h0 at *
 refine (Na.out _ _ S.out.2.2.1).mono ?_
 rintro e x ⟨rfl,hR,hu⟩
 have S:=Lib.hid (S.out.num hR hu)
 clear hR hu Na
 have cA:=S.out.2.2.2.1.all
 have fA:=S.out.2.2.2.1.frz
 go_wp2_with fail
 clear cA fA
 have S:=Lib.hid (S.out.set 9 (.int .u64 (va:Nat)))
 simp only [List.set_cons_zero,List.set_cons_succ] at S
 refine (Nb.out _ _ S.out.2.2.1).mono ?_
 rintro e x ⟨rfl,hR,hu⟩
 have S:=Lib.hid (S.out.num hR hu)
 clear hR hu Nb
 go_wp2_with fail
 refine (Nf.out _ _ S.out.2.2.1).mono ?_
 rintro e x ⟨rfl,hR,hu⟩
 have S:=Lib.hid (S.out.num hR hu)
 clear hR hu Nf
 have cA:=S.out.2.2.2.1.all
 have fA:=S.out.2.2.2.1.frz
 go_wp2_with fail
 clear cA fA
 have S:=Lib.hid (S.out.set 10 (.int .u64 (vf:Nat)))
 simp only [List.set_cons_zero,List.set_cons_succ] at S
 refine (Nm.out _ _ S.out.2.2.1).mono ?_
 rintro e x ⟨rfl,hR,hu⟩
 have S:=Lib.hid (S.out.num hR hu)
 clear hR hu Nm
 have cA:=S.out.2.2.2.1.all
 have fA:=S.out.2.2.2.1.frz
 go_wp2_with fail
 clear cA fA
 have S:=Lib.hid (S.out.set 1 (.int .i64 (vm:Nat)))
 simp only [List.set_cons_zero,List.set_cons_succ] at S
 refine (Nt.out _ _ S.out.2.2.1).mono ?_
 rintro e x ⟨rfl,hR,hu⟩
 have S:=Lib.hid (S.out.num hR hu)
 clear hR hu Nt
 have cA:=S.out.2.2.2.1.all
 have fA:=S.out.2.2.2.1.frz
 go_wp2_with fail
 clear cA fA
 have S:=Lib.hid (S.out.set 7 (.int .u32 (vt:Nat)))
 simp only [List.set_cons_zero,List.set_cons_succ] at S
 refine (Nu.out _ _ S.out.2.2.1).mono ?_
 rintro e x ⟨rfl,hR,hu⟩
 have S:=Lib.hid (S.out.num hR hu)
 clear hR hu Nu
 have cA:=S.out.2.2.2.1.all
 have fA:=S.out.2.2.2.1.frz
 go_wp2_with fail
 clear cA fA
 have S:=Lib.hid (S.out.set 2 (.int .u32 (vu:Nat)))
 simp only [List.set_cons_zero,List.set_cons_succ] at S
 refine (Nl.out _ _ S.out.2.2.1).mono ?_
 rintro e x ⟨rfl,hR,hu⟩
 have S:=Lib.hid (S.out.num hR hu)
 clear hR hu Nl
 go_wp2_with fail
 refine (Nwh.out _ _ S.out.2.2.1).mono ?_
 rintro e x ⟨rfl,hR,hu⟩
 have S:=Lib.hid (S.out.num hR hu)
 clear hR hu Nwh
 have cA:=S.out.2.2.2.1.all
 have fA:=S.out.2.2.2.1.frz
 go_wp2_with fail
 clear cA fA
 have S:=Lib.hid ((S.out.set 3 (.int .i64 (vl:Nat))).set 4 (.int .i64 (vwh:Nat)))
 simp only [List.set_cons_zero,List.set_cons_succ] at S
 refine (Nn.out _ _ S.out.2.2.1).mono ?_
 rintro e x ⟨rfl,hR,hu⟩
 have S:=Lib.hid (S.out.num hR hu)
 clear hR hu Nn
 go_wp2_with fail
 refine (Nmo.out _ _ S.out.2.2.1).mono ?_
 rintro e x ⟨rfl,hR,hu⟩
 have S:=Lib.hid (S.out.num hR hu)
 clear hR hu Nmo
 go_wp2_with fail
 refine (Jt b vn rmo _ S.out.2.2.1 smo omo (by omega)).mono ?_
 rintro e x ⟨rfl,hR,hu⟩
 have S:=Lib.hid (S.out.num hR hu)
 clear hR hu
 have cA:=S.out.2.2.2.1.all
 have fA:=S.out.2.2.2.1.frz
 go_wp2_with fail
 clear cA fA
 have S:=Lib.hid (S.out.set 11 (.string (zd (rmo.text vn).1)))
 simp only [List.set_cons_zero,List.set_cons_succ] at S
 refine (zbD b vmo _ _ S.out.2.2.1 snm onm (by omega)).mono ?_
 rintro e x ⟨rfl,hR,hu⟩
 have S:=Lib.hid (S.out.num hR hu)
 clear hR hu
 have cA:=S.out.2.2.2.1.all
 have fA:=S.out.2.2.2.1.frz
 go_wp2
 (try simp only [Exit.inBlock,Exit.then]); refine bodyPost_ret (zb5 rfl _ _ h0 _ _ _ _ _ _ _ _ _ _ _ _ rfl (Blk.set12 S.out.2.2.2.1 _ _ _ _ _ _ _ _ _ _ _ _)) rfl ⟨?_,?_,Upd.set12 S.out.2.2.2.2 (.inr S.out.1) _ _ _ _ _ _ _ _ _ _ _ _⟩
 · rw [HD.out]; rfl
 · rw [HD.out]; exact Blk.far12 S.out.2.2.1 (Ne.symm S.out.2.1) _ _ _ _ _ _ _ _ _ _ _ _
end Go.Proofs.YtfkcdnaghndgfaaGreatDoor
namespace Go.Proofs.YtfkcdnaghndgfaaGreatDoor
open Go.RowKit
theorem Vu (p:ByteArray):p++({ data := #[47] }:ByteArray)=zd (za p++[47]):=by
 rw [← xN,zz]; rfl
theorem Xh (r:RecD) (w:World) (h:r.Fits):Calls Tryz.prog 45 #[r.v] w fun e w'=>e = .returned (.string (zd (zJ r.k r.p)))∧Upd [] w w':=by
 have hp:=h.p
 obtain ⟨p,m,sum,l,wh,k,md,t,pos⟩:=r
 dsimp only at hp
 unfold RecD.v
 dsimp only
 have HA:=Lib.hid (Vu p)
 have HB:=Lib.hid (zz p)
 by_cases hk:k=2
 · subst hk
   have HN:Hid (zJ 2 p=za p++[47]):=Lib.hid rfl
   go_enter Tryz.func45,Tryz.ntmps45
   go_wp2
   go_ret
   exact ⟨by rw [HN.out,← HA.out]; rfl,(Upd.refl _ _).alloc _⟩
 · have HN:Hid (zJ k p=za p):=Lib.hid (if_neg hk)
   have t1:(k==2)=false:=by rw [beq_eq_false_iff_ne]; exact hk
   go_enter Tryz.func45,Tryz.ntmps45
   go_wp2
   go_ret
   exact ⟨by rw [HN.out,HB.out]; rfl,(Upd.refl _ _).alloc _⟩
theorem WK (r:RecD) (w:World) (h:r.Fits):Calls Tryz.prog 9 #[r.v] w fun e w'=>e = .returned (.string (zd (zJ r.k r.p)))∧Upd [] w w':=by
 have hp:=h.p
 obtain ⟨p,m,sum,l,wh,k,md,t,pos⟩:=r
 dsimp only at hp
 unfold RecD.v
 dsimp only
 have HA:=Lib.hid (Vu p)
 have HB:=Lib.hid (zz p)
 by_cases hk:k=2
 · subst hk
   have HN:Hid (zJ 2 p=za p++[47]):=Lib.hid rfl
   go_enter Tryz.func9,Tryz.ntmps9
   go_wp2
   go_ret
   exact ⟨by rw [HN.out,← HA.out]; rfl,(Upd.refl _ _).alloc _⟩
 · have HN:Hid (zJ k p=za p):=Lib.hid (if_neg hk)
   have t1:(k==2)=false:=by rw [beq_eq_false_iff_ne]; exact hk
   go_enter Tryz.func9,Tryz.ntmps9
   go_wp2
   go_ret
   exact ⟨by rw [HN.out,HB.out]; rfl,(Upd.refl _ _).alloc _⟩
theorem zd1 (n:Int) (w:World):Calls Tryz.prog 86 #[.int .i64 n] w fun e w'=>e = .returned (.bool (ya n))∧w=w':=by
 by_cases h:0≤n
 · have t1:decide (0≤n)=true:=decide_eq_true h
   have HS:Hid (ya n=decide (n<2147483648)):=Lib.hid (by unfold ya; rw [t1]; rfl)
   go_enter Tryz.func86,Tryz.ntmps86
   go_wp2
   go_returns
   exact ⟨by rw [HS.out]; rfl,rfl⟩
 · have t1:decide (0≤n)=false:=decide_eq_false h
   have HS:Hid (ya n=false):=Lib.hid (by unfold ya; rw [t1]; rfl)
   go_enter Tryz.func86,Tryz.ntmps86
   go_wp2
   go_returns
   exact ⟨by rw [HS.out]; rfl,rfl⟩
set_option maxRecDepth 100000 in
set_option maxHeartbeats 4000000 in
theorem zeu (r:RecD) (w:World) (h:r.Fits):Calls Tryz.prog 46 #[r.v] w fun e w'=>e = .returned (.bool (xK r))∧Upd [] w w':=by
 have hp:=h.p
 have hs:=h.sum
 have HL:=Lib.hid (show xK r=if (r.m≠0∧r.m≠8)∨ya r.l=false∨ya r.wh=false∨ya r.pos=false then false
  else if r.k=2 then decide (r.sum=0)&&decide (r.l=0)&&decide (r.wh=0)&&decide (r.m=0) else decide (r.m=8)||decide (r.l=r.wh) from rfl)
 obtain ⟨p,m,sum,l,wh,k,md,t,pos⟩:=r
 dsimp only at hp hs HL
 unfold RecD.v
 dsimp only
 rw [HL.out]
 clear HL
 go_enter Tryz.func46,Tryz.ntmps46
 go_wp2_with (go_at_call 86; refine (zd1 _ _).mono ?_; rintro e w2 ⟨rfl,rfl⟩)
 all_goals go_returns
 all_goals (refine ⟨congrArg (fun z=>Ending.returned (.bool z)) ?_,(Upd.refl _ _).alloc _⟩)
 all_goals (simp_all<;>rfl)
set_option maxRecDepth 100000 in
set_option maxHeartbeats 4000000 in
theorem zaD (r:RecD) (w:World) (h:r.Fits):Calls Tryz.prog 47 #[r.v] w fun e w'=>e = .returned (.bool (xk r.k r.t))∧Upd [] w w':=by
 have ht:=h.t
 obtain ⟨p,m,sum,l,wh,k,md,t,pos⟩:=r
 dsimp only at ht
 unfold RecD.v
 dsimp only
 have HT:=Lib.hid (fun w'=>Qg t w' ht)
 by_cases hk:k=2
 · subst hk
   have HN:Hid (xk 2 t=decide (t=2162688)):=Lib.hid rfl
   have t1:((t:Int)==2162688)=decide (t=2162688):=by rw [Bool.eq_iff_iff,beq_iff_eq,decide_eq_true_eq]; omega
   go_enter Tryz.func47,Tryz.ntmps47
   go_wp2
   go_ret
   exact ⟨by rw [HN.out]; rfl,(Upd.refl _ _).alloc _⟩
 · have HN:Hid (xk k t=Zr t):=Lib.hid (if_neg hk)
   have t1:(k==2)=false:=by rw [beq_eq_false_iff_ne]; exact hk
   go_enter Tryz.func47,Tryz.ntmps47
   go_wp2_with fail
   refine (HT.out _).mono ?_
   rintro e w1 ⟨rfl,hU⟩
   go_wp2
   go_ret
   exact ⟨by rw [HN.out]; rfl,((Upd.refl _ _).alloc _).then hU⟩
set_option maxRecDepth 100000 in
set_option maxHeartbeats 4000000 in
theorem VO (r:RecD) (w:World) (h:r.Fits):Calls Tryz.prog 64 #[r.v] w fun e w'=>e = .returned (.bool (xk r.k r.t))∧Upd [] w w':=by
 have ht:=h.t
 obtain ⟨p,m,sum,l,wh,k,md,t,pos⟩:=r
 dsimp only at ht
 unfold RecD.v
 dsimp only
 have HS:=Lib.hid (fun w'=>zcc t w' ht)
 have HR:=Lib.hid (fun w'=>zbt _ _ _ _ _ _ w' (zao t))
 have HT:=Lib.hid (show Zr t=kt (1980+(t:Int)/33554432%128) ((t:Int)/2097152%16) ((t:Int)/65536%32) ((t:Int)/2048%32) ((t:Int)/32%64) (2*((t:Int)%32)) from rfl)
 unfold vH at HS
 by_cases hk:k=2
 · subst hk
   have HN:Hid (xk 2 t=decide (t=2162688)):=Lib.hid rfl
   have t1:((t:Int)==2162688)=decide (t=2162688):=by rw [Bool.eq_iff_iff,beq_iff_eq,decide_eq_true_eq]; omega
   go_enter Tryz.func64,Tryz.ntmps64
   go_wp2
   go_ret
   exact ⟨by rw [HN.out]; rfl,(Upd.refl _ _).alloc _⟩
 · have HN:Hid (xk k t=Zr t):=Lib.hid (if_neg hk)
   have t1:(k==2)=false:=by rw [beq_eq_false_iff_ne]; exact hk
   go_enter Tryz.func64,Tryz.ntmps64
   go_wp2_with fail
   refine (HS.out _).mono ?_
   rintro e w1 ⟨rfl,hU⟩
   go_wp2_with fail
   refine (HR.out w1).mono ?_
   rintro e w2 ⟨rfl,hU2⟩
   go_wp2
   go_ret
   exact ⟨by rw [HN.out,HT.out]; rfl,(((Upd.refl _ _).alloc _).then hU).then hU2⟩
theorem zcF (r:RecD) (w:World) (h:r.Fits):Calls Tryz.prog 25 #[r.v] w fun e w'=>e = .returned (.int .i64 (30+(zJ r.k r.p).length:Nat))∧Upd [] w w':=by
 have hl:=jB r.k r.p
 have hp:=h.p
 have HNM:=Lib.hid (fun w=>Xh r w h)
 obtain ⟨p,m,sum,l,wh,k,md,t,pos⟩:=r
 dsimp only at hp hl HNM
 unfold RecD.v at *
 dsimp only at HNM ⊢
 have hsz:=zq (zJ k p)
 have HSZ:=Lib.hid hsz
 have hb:(zd (zJ k p)).size≤1001:=by omega
 generalize zd (zJ k p)=S at *
 generalize (zJ k p).length=n at *
 clear hsz
 go_enter Tryz.func25,Tryz.ntmps25
 go_wp2_with fail
 refine (HNM.out _).mono ?_
 rintro e w1 ⟨rfl,hU⟩
 go_wp2
 go_ret
 exact ⟨by rw [← HSZ.out]; show Ending.returned (.int .i64 (30+(S.size:Int)))=_; simp,((Upd.refl _ _).alloc _).then hU⟩
end Go.Proofs.YtfkcdnaghndgfaaGreatDoor
namespace Go.Proofs.YtfkcdnaghndgfaaGreatDoor
open Go.RowKit
theorem zhR {a b:List Nat} (ha : ∀ x∈a,x<256) (hb : ∀ x∈b,x<256) (hl:a.length=b.length) (h:leG a=leG b):a=b:=by
 rw [← Kk a ha,← Kk b hb,h,hl]
theorem zgB (x:ByteArray) (h:4≤x.size) (L:List UInt8) (m:Nat) (hL:L.length=4) (hm:leG (L.map UInt8.toNat)=m):((x.extract 0 4).toList==L)=decide (gN x 0 4=m):=by
 rw [xO,Bool.eq_iff_iff,decide_eq_true_eq,decide_eq_true_eq,zK]
 unfold gN
 rw [← hm,Nat.sub_zero]
 refine ⟨fun e=>by rw [e],fun e=>zhR (fun y hy=>zV x y (List.mem_of_mem_drop (List.mem_of_mem_take hy))) (fun y hy=>?_) (by rw [List.length_take,List.length_drop,zc,List.length_map,hL]; omega) e⟩
 obtain ⟨z,_,rfl⟩:=List.mem_map.1 hy
 exact z.toNat_lt
theorem zbv (s:ByteArray) (i k:Nat) (h:i+k≤s.size):YK (s.extract i s.size) k = .tuple #[.int .u64 (gN s i k:Nat),.bool true]:=by
 unfold YK gN
 have e:((za s).drop i).take (s.size-i)=(za s).drop i:=List.take_of_length_le (by rw [List.length_drop,zc]; omega)
 rw [if_pos (by rw [ByteArray.size_extract]; omega),zK,e]
set_option maxRecDepth 100000 in
theorem Qb (s:ByteArray) (i k:Nat) (w:World) (h:i+k≤s.size) (hs:s.size≤1000000) (hk:k≤4) :
 Calls Tryz.prog 65 #[.string s,.int .i64 (i:Nat),.int .i64 (k:Nat)] w fun e w'=>e = .returned (.int .i64 (gN s i k:Nat))∧Upd [] w w':=by
 have HG:=Lib.hid (fun w=>zfG (s.extract i s.size) k w (by rw [ByteArray.size_extract]; omega) (by omega))
 rw [zbv s i k h] at HG
 have hlt:gN s i k<4294967296:=Nat.lt_of_lt_of_le (zgw s i k) (Nat.le_trans (Nat.pow_le_pow_right (by omega) hk) (by decide))
 generalize gN s i k=v at *
 have h1:(i:Int)≤(s.size:Int):=by omega
 go_enter Tryz.func65,Tryz.ntmps65
 go_wp2_with fail
 refine (HG.out _).mono ?_
 rintro e w1 ⟨rfl,hU⟩
 go_wp2
 go_ret
 exact ⟨rfl,hU⟩
def Vr (x:RecD×Nat×Bool×Nat):Value := .tuple #[x.1.v,.int .i64 (x.2.1:Nat),.bool x.2.2.1,.int .i64 (x.2.2.2:Nat)]
theorem XX {l:List Nat} (h:(zR l).2.2=true):(zR l).1.length≤200:=by
 unfold zR at h ⊢
 repeat' split
 · rename_i h1; exact XC h1
 · simp
 · rename_i h1
   rcases h1 with h1 | h1
   · exact XC h1
   · rw [h1]; decide
 · simp
theorem zO {fn:Func} {p t u v:Tmp} (h:fn.results = #[.cell p 26,.tmp t,.tmp u,.tmp v]) (tmps:Array Value) (w:World) (g:Nat) (c0 c1 c2 c3 c4 c5 c6 c7 c8:Value) (hp:tmps.getD p undef = .pointer (some ⟨g,0,none⟩)) (hB:Blk w g [c0,c1,c2,c3,c4,c5,c6,c7,c8] 26) :
 (results fn tmps).run Tryz.prog w = .ok (.tuple #[.agg #[c0,c1,c2,c3,c4,c5,c6,c7,c8],tmps.getD t undef,tmps.getD u undef,tmps.getD v undef]) w:=by
 have h0:=hB.cell 0 rfl
 have h1:=hB.cell 1 rfl
 have h2:=hB.cell 2 rfl
 have h3:=hB.cell 3 rfl
 have h4:=hB.cell 4 rfl
 have h5:=hB.cell 5 rfl
 have h6:=hB.cell 6 rfl
 have h7:=hB.cell 7 rfl
 have h8:=hB.cell 8 rfl
 have hp2:tmps[p]?.getD undef = .pointer (some ⟨g,0,none⟩):=by rw [← hp]; simp
 simp [results,h,go_sem,hp2,h0,h1,h2,h3,h4,h5,h6,h7,h8]
theorem Blk.set9 {w:World} {b:Nat} {a0 a1 a2 a3 a4 a5 a6 a7 a8:Value} {t:TypeId} (h:Blk w b [a0,a1,a2,a3,a4,a5,a6,a7,a8] t) (v0 v1 v2 v3 v4 v5 v6 v7 v8:Value) :
 Blk (((((((((w.setCell ⟨b,0,none⟩ v0).setCell ⟨b,1,none⟩ v1).setCell ⟨b,2,none⟩ v2).setCell ⟨b,3,none⟩ v3).setCell ⟨b,4,none⟩ v4).setCell ⟨b,5,none⟩ v5).setCell ⟨b,6,none⟩ v6).setCell ⟨b,7,none⟩ v7).setCell ⟨b,8,none⟩ v8) b [v0,v1,v2,v3,v4,v5,v6,v7,v8] t :=
 ((((((((h.set 0 v0).set 1 v1).set 2 v2).set 3 v3).set 4 v4).set 5 v5).set 6 v6).set 7 v7).set 8 v8
theorem Upd.set9 {fp:List Nat} {w0 w:World} {b:Nat} (h:Upd fp w0 w) (hb:b∈fp∨w0.heap.size≤b) (v0 v1 v2 v3 v4 v5 v6 v7 v8:Value) :
 Upd fp w0 (((((((((w.setCell ⟨b,0,none⟩ v0).setCell ⟨b,1,none⟩ v1).setCell ⟨b,2,none⟩ v2).setCell ⟨b,3,none⟩ v3).setCell ⟨b,4,none⟩ v4).setCell ⟨b,5,none⟩ v5).setCell ⟨b,6,none⟩ v6).setCell ⟨b,7,none⟩ v7).setCell ⟨b,8,none⟩ v8) :=
 ((((((((h.setCell hb v0).setCell hb v1).setCell hb v2).setCell hb v3).setCell hb v4).setCell hb v5).setCell hb v6).setCell hb v7).setCell hb v8
theorem Blk.far9 {w:World} {d b:Nat} {cs:List Value} {t:TypeId} (h:Blk w d cs t) (hb:d≠b) (v0 v1 v2 v3 v4 v5 v6 v7 v8:Value):Blk (((((((((w.setCell ⟨b,0,none⟩ v0).setCell ⟨b,1,none⟩ v1).setCell ⟨b,2,none⟩ v2).setCell ⟨b,3,none⟩ v3).setCell ⟨b,4,none⟩ v4).setCell ⟨b,5,none⟩ v5).setCell ⟨b,6,none⟩ v6).setCell ⟨b,7,none⟩ v7).setCell ⟨b,8,none⟩ v8) d cs t:=(Blk.setFar (Blk.setFar (Blk.setFar (Blk.setFar (Blk.setFar (Blk.setFar (Blk.setFar (Blk.setFar (Blk.setFar h (a:=⟨b,0,none⟩) v0 hb) (a:=⟨b,1,none⟩) v1 hb) (a:=⟨b,2,none⟩) v2 hb) (a:=⟨b,3,none⟩) v3 hb) (a:=⟨b,4,none⟩) v4 hb) (a:=⟨b,5,none⟩) v5 hb) (a:=⟨b,6,none⟩) v6 hb) (a:=⟨b,7,none⟩) v7 hb) (a:=⟨b,8,none⟩) v8 hb)
def Rd1 (w0:World) (b:Nat) (w:World):Prop:=w0.heap.size≤b∧Blk w b [.string { data := #[] },.int .i64 0,.int .u32 0,.int .i64 0,.int .i64 0,.int .i64 0,.int .i64 0,.int .u32 0,.int .i64 0] 26∧Upd [] w0 w
theorem Rd1.upd {w0 w w':World} {b:Nat} {fp:List Nat} (h:Rd1 w0 b w) (hu:Upd fp w w') (hf : ∀ k,k∈fp→b<k):Rd1 w0 b w':=⟨h.1,h.2.1.upd hu (fun hm=>by have:=hf b hm; omega),h.2.2.trans hu (fun k hk => .inr (by have:=hf k hk; have:=h.1; omega))⟩
def Rd3 (w0:World) (b:Nat) (w:World):Prop:=w0.heap.size≤b∧Blk w b [.string .empty,.int .i64 0,.int .u32 0,.int .i64 0,.int .i64 0,.int .i64 0,.int .i64 0,.int .u32 0,.int .i64 0] 26∧Blk w (b+1) [.string .empty,.int .i64 0,.int .u32 0,.int .i64 0,.int .i64 0,.int .i64 0,.int .i64 0,.int .u32 0,.int .i64 0] 26∧Upd [] w0 w
theorem Rd3.new (w:World):Rd3 w w.heap.size ((w.alloc (.cells #[.string .empty,.int .i64 0,.int .u32 0,.int .i64 0,.int .i64 0,.int .i64 0,.int .i64 0,.int .u32 0,.int .i64 0] 26)).alloc (.cells #[.string .empty,.int .i64 0,.int .u32 0,.int .i64 0,.int .i64 0,.int .i64 0,.int .i64 0,.int .u32 0,.int .i64 0] 26)):=by
 have h:=Blk.new (w.alloc (.cells #[.string .empty,.int .i64 0,.int .u32 0,.int .i64 0,.int .i64 0,.int .i64 0,.int .i64 0,.int .u32 0,.int .i64 0] 26)) [.string .empty,.int .i64 0,.int .u32 0,.int .i64 0,.int .i64 0,.int .i64 0,.int .i64 0,.int .u32 0,.int .i64 0] 26
 rw [World.size_alloc] at h
 exact ⟨Nat.le_refl _,(Blk.new w [.string .empty,.int .i64 0,.int .u32 0,.int .i64 0,.int .i64 0,.int .i64 0,.int .i64 0,.int .u32 0,.int .i64 0] 26).alloc _,h,((Upd.refl [] w).alloc _).alloc _⟩
theorem Rd3.upd {w0 w w':World} {b:Nat} (h:Rd3 w0 b w) (hu:Upd [] w w'):Rd3 w0 b w':=⟨h.1,h.2.1.upd hu (by simp),h.2.2.1.upd hu (by simp),h.2.2.2.then hu⟩
theorem Rd3.far {w0 w:World} {b q o:Nat} (h:Rd3 w0 b w) (hq:b+1<q) (v:Value):Rd3 w0 b (w.setCell ⟨q,o,none⟩ v):=⟨h.1,h.2.1.setFar _ (by simp; omega),h.2.2.1.setFar _ (by simp; omega),h.2.2.2.setCell (p:=⟨q,o,none⟩) (.inr (by have:=h.1; dsimp only; omega)) v⟩
theorem zaJ (x:ByteArray) (i k:Nat) (h:i+k≤x.size) (hs:x.size≤1000000) (hk:k≤4) : ∃ n,gN x i k=n∧n<256^k∧Hid (∀ w,Calls Tryz.prog 65 #[.string x,.int .i64 (i:Nat),.int .i64 (k:Nat)] w fun e w'=>e = .returned (.int .i64 (n:Nat))∧Upd [] w w') :=
 ⟨_,rfl,zgw x i k,Lib.hid (fun w=>Qb x i k w h hs hk)⟩
end Go.Proofs.YtfkcdnaghndgfaaGreatDoor
