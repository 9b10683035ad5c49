/- Package swingleref19: Right: its walk. -/
import Derived.Test.YtfkcdnaghndgfaaGreatDoorQAX
import Derived.Lib.MinMax
import Derived.Test.YtfkcdnaghndgfaaGreatDoorQAC
set_option linter.unusedVariables false
set_option linter.unusedSimpArgs false
set_option linter.unusedSectionVars false
namespace Go.Proofs.YtfkcdnaghndgfaaGreatDoor
open Go.RowKit
theorem yM (n:Int):ya n=!(decide (n<0)||decide (2147483647<n)):=by
 unfold ya
 rw [Bool.eq_iff_iff]
 simp
 omega
theorem zbK {r:RecD} (h:r.m≠0∧r.m≠8):xK r=false:=by unfold xK; rw [if_pos (.inl h)]
theorem zbB {r:RecD} (h:ya r.l=false):xK r=false:=by unfold xK; rw [if_pos (.inr (.inl h))]
theorem zbg {r:RecD} (h:ya r.wh=false):xK r=false:=by unfold xK; rw [if_pos (.inr (.inr (.inl h)))]
theorem zcr {r:RecD} (h:ya r.pos=false):xK r=false:=by unfold xK; rw [if_pos (.inr (.inr (.inr h)))]
theorem zcy {r:RecD} (hm:r.m=0∨r.m=8) (h1:ya r.l=true) (h2:ya r.wh=true) (h3:ya r.pos=true) :
 xK r=if r.k=2 then decide (r.sum=0)&&decide (r.l=0)&&decide (r.wh=0)&&decide (r.m=0) else decide (r.m=8)||decide (r.l=r.wh):=by
 unfold xK
 rw [h1,h2,h3,if_neg]
 simp
 omega
set_option maxRecDepth 100000 in
set_option maxHeartbeats 8000000 in
theorem Kv (r:RecD) (w:World) (h:r.Fits):Calls Tryz.prog 30 #[r.v] w fun e w'=>e = .returned (.int .i64 (yF r:Nat))∧Upd [] w w':=by
 have hp:=h.p
 have hsz:(zd (zJ r.k r.p)).size≤1100000:=by have:=jB r.k r.p; rw [zq]; omega
 have HN:=Lib.hid (fun w=>WK r w h)
 have HP:=Lib.hid (fun w=>VB (zd (zJ r.k r.p)) w hsz)
 rw [zE _ (jR r.k r.p)] at HP
 have HT:=Lib.hid (fun w=>VO r w h)
 have HE:Hid (yF r=if jL r=false then 5 else if xK r=false then 2 else if r.md<0∨511<r.md then 12 else if xk r.k r.t=false then 13 else 0):=Lib.hid rfl
 have HB:Hid (jL r=((zR (zJ r.k r.p)).2.2&&decide ((zR (zJ r.k r.p)).1=za r.p)&&decide (((zR (zJ r.k r.p)).2.1:Int)=r.k))):=Lib.hid rfl
 have HA:Hid (∀ x∈(zR (zJ r.k r.p)).1,x<256):=Lib.hid (zah (jR r.k r.p))
 have L1:=Lib.hid (@zbK r)
 have L2:=Lib.hid (@zbB r)
 have L3:=Lib.hid (@zbg r)
 have L4:=Lib.hid (@zcr r)
 have L5:=Lib.hid (@zcy r)
 generalize yF r=E at *
 generalize xk r.k r.t=tb at *
 generalize xK r=lb at *
 generalize jL r=nb at *
 generalize zR (zJ r.k r.p)=pp at *
 generalize zd (zJ r.k r.p)=S at *
 clear hsz
 obtain ⟨a,kk,okb⟩:=pp
 unfold Xl at HP
 dsimp only at HP HB HA
 obtain ⟨p,m,sum,l,wh,k,md,t,pos⟩:=r
 unfold RecD.v at *
 dsimp only at *
 have HQ:=Lib.hid (vD a p HA.out)
 clear HA
 go_enter Tryz.func30,Tryz.ntmps30
 go_wp2_with fail
 refine (HN.out _).mono ?_
 rintro e w1 ⟨rfl,hU1⟩
 go_wp2_with fail
 refine (HP.out _).mono ?_
 rintro e w2 ⟨rfl,hU2⟩
 have hU:Upd [] w w2:=(((Upd.refl [] w).alloc _).then hU1).then hU2
 have hB:=((Blk.new w [.string p,.int .i64 m,.int .u32 (sum:Nat),.int .i64 l,.int .i64 wh,.int .i64 k,.int .i64 md,.int .u32 (t:Nat),.int .i64 pos] 26).upd hU1 (by simp)).upd hU2 (by simp)
 generalize w.heap.size=b0 at *
 have cA:=hB.all
 have HBB:=Lib.hid hB
 have HU:=Lib.hid hU
 clear hB hU hU1 hU2
 by_cases hn:okb=true∧(zd a).toList=p.toList∧(kk:Int)=k
 · obtain ⟨rfl,h2,h4⟩:=hn
   have hnb:nb=true:=by
    have h2':=h2
    rw [HQ.out] at h2'
    rw [HB.out]
    simp [h2',h4]
   have h3:((kk:Int) != k)=false:=by simpa using h4
   rw [hnb,if_neg (by simp)] at HE
   clear hnb h4 HB HQ HP HN
   by_cases hm:m=0∨m=8
   rotate_left
   · have hlb:lb=false:=L1.out (by omega)
     have hm0 : ¬ m=0:=by omega
     have hm8 : ¬ m=8:=by omega
     have t0:(m != 0)=true:=by simpa using hm0
     have t8:(m != 8)=true:=by simpa using hm8
     clear hm
     go_wp2_with fail
     go_ret
     exact ⟨by rw [HE.out,hlb]; rfl,HU.out⟩
   · have L6:=Lib.hid (L5.out hm)
     clear L1 L5
     rcases hm with rfl | rfl
     · go_wp2_with fail
       have HW:Hid (Upd [] w (w2.alloc (.cells #[.int .i64 l,.int .i64 wh,.int .i64 pos] 3))):=Lib.hid (HU.out.alloc _)
       have hB3:=HBB.out.alloc (.cells #[.int .i64 l,.int .i64 wh,.int .i64 pos] 3)
       have hS:=Blk.new w2 [.int .i64 l,.int .i64 wh,.int .i64 pos] 3
       change Code.wp _ _ _ _ (w2.alloc (.cells [.int .i64 l,.int .i64 wh,.int .i64 pos].toArray 3))
       change Blk (w2.alloc (.cells [.int .i64 l,.int .i64 wh,.int .i64 pos].toArray 3)) _ _ _ at hB3
       change Hid (Upd [] w (w2.alloc (.cells [.int .i64 l,.int .i64 wh,.int .i64 pos].toArray 3))) at HW
       generalize w2.alloc (.cells [.int .i64 l,.int .i64 wh,.int .i64 pos].toArray 3)=w3 at *
       generalize w2.heap.size=b3 at *
       have dA:=hB3.all
       have eA:=hS.all
       clear hS hB3 HBB cA
       go_loopg [7,45] 3 (fun gg s7 s45 wr => ∃ i,i≤3∧gg=3-i∧s45 = .int .i64 (i:Nat)∧Hid (0<i→ya l=true)∧Hid (1<i→ya wh=true)∧Hid (2<i→ya pos=true)∧wr=w3)
       case atStart=>exact ⟨0,by omega,rfl,rfl,Lib.hid (by omega),Lib.hid (by omega),Lib.hid (by omega),rfl⟩
       case round =>
        obtain ⟨i,hi,rfl,rfl,S1,S2,S3,rfl⟩:=hrel
        have hcs:i=0∨i=1∨i=2∨i=3:=by omega
        rcases hcs with rfl | rfl | rfl | rfl
        · cases hs:ya l with
          | true =>
            have hs':=hs
            rw [yM] at hs'
            have q0 : ¬ l<0:=by simp at hs'; omega
            have q1 : ¬ 2147483647<l:=by simp at hs'; omega
            clear hs'
            have HS:=Lib.hid hs
            clear hs
            go_wp2_with fail
            have hs:=HS.out
            go_roundg (3-1)
            all_goals first
             | omega
             | exact ⟨1,by omega,rfl,rfl,Lib.hid (fun _=>hs),Lib.hid (by omega),Lib.hid (by omega),rfl⟩
          | false =>
            have hlb:lb=false:=L2.out hs
            have hs':=hs
            rw [yM] at hs'
            have q0:l<0∨2147483647<l:=by simp at hs'; omega
            clear hs' hs
            rcases q0 with q0 | q0
            · go_wp2_with fail
              go_ret
              exact ⟨by rw [HE.out,hlb]; rfl,HW.out⟩
            · have q1 : ¬ l<0:=by omega
              go_wp2_with fail
              go_ret
              exact ⟨by rw [HE.out,hlb]; rfl,HW.out⟩
        · cases hs:ya wh with
          | true =>
            have hs':=hs
            rw [yM] at hs'
            have q0 : ¬ wh<0:=by simp at hs'; omega
            have q1 : ¬ 2147483647<wh:=by simp at hs'; omega
            clear hs'
            have HS:=Lib.hid hs
            clear hs
            go_wp2_with fail
            have hs:=HS.out
            go_roundg (3-2)
            all_goals first
             | omega
             | exact ⟨2,by omega,rfl,rfl,Lib.hid (fun _=>S1.out (by omega)),Lib.hid (fun _=>hs),Lib.hid (by omega),rfl⟩
          | false =>
            have hlb:lb=false:=L3.out hs
            have hs':=hs
            rw [yM] at hs'
            have q0:wh<0∨2147483647<wh:=by simp at hs'; omega
            clear hs' hs
            rcases q0 with q0 | q0
            · go_wp2_with fail
              go_ret
              exact ⟨by rw [HE.out,hlb]; rfl,HW.out⟩
            · have q1 : ¬ wh<0:=by omega
              go_wp2_with fail
              go_ret
              exact ⟨by rw [HE.out,hlb]; rfl,HW.out⟩
        · cases hs:ya pos with
          | true =>
            have hs':=hs
            rw [yM] at hs'
            have q0 : ¬ pos<0:=by simp at hs'; omega
            have q1 : ¬ 2147483647<pos:=by simp at hs'; omega
            clear hs'
            have HS:=Lib.hid hs
            clear hs
            go_wp2_with fail
            have hs:=HS.out
            go_roundg (3-3)
            all_goals first
             | omega
             | exact ⟨3,by omega,rfl,rfl,Lib.hid (fun _=>S1.out (by omega)),Lib.hid (fun _=>S2.out (by omega)),Lib.hid (fun _=>hs),rfl⟩
          | false =>
            have hlb:lb=false:=L4.out hs
            have hs':=hs
            rw [yM] at hs'
            have q0:pos<0∨2147483647<pos:=by simp at hs'; omega
            clear hs' hs
            rcases q0 with q0 | q0
            · go_wp2_with fail
              go_ret
              exact ⟨by rw [HE.out,hlb]; rfl,HW.out⟩
            · have q1 : ¬ pos<0:=by omega
              go_wp2_with fail
              go_ret
              exact ⟨by rw [HE.out,hlb]; rfl,HW.out⟩
        · have L7:=Lib.hid (L6.out (S1.out (by omega)) (S2.out (by omega)) (S3.out (by omega)))
          clear L2 L3 L4 L6 S1 S2 S3 eA
          by_cases hk:k=2
          · subst hk
            by_cases hz:sum=0∧l=0∧wh=0
            · obtain ⟨rfl,rfl,rfl⟩:=hz
              have hlb:lb=true:=by rw [L7.out]; rfl
              clear L7
              by_cases hmd:md<0∨511<md
              · have HX:Hid (E=12):=Lib.hid (by rw [HE.out,hlb,if_neg (by simp),if_pos hmd])
                clear HE
                rcases hmd with hmd | hmd
                · go_wp2_with fail
                  go_ret
                  exact ⟨by rw [HX.out]; rfl,HW.out⟩
                · have hm0 : ¬ md<0:=by omega
                  go_wp2_with fail
                  go_ret
                  exact ⟨by rw [HX.out]; rfl,HW.out⟩
              · have HX:Hid (E=if tb=false then 13 else 0):=Lib.hid (by rw [HE.out,hlb,if_neg (by simp),if_neg hmd])
                have hm0 : ¬ md<0:=by omega
                have hm1 : ¬ 511<md:=by omega
                clear HE hmd
                go_wp2_with fail
                refine (HT.out _).mono ?_
                rintro e w4 ⟨rfl,hU4⟩
                have HG:=Lib.hid (HW.out.then hU4)
                clear hU4 dA
                cases tb with
                | false =>
                  go_wp2
                  go_ret
                  exact ⟨by rw [HX.out]; rfl,HG.out⟩
                | true =>
                  go_wp2
                  go_ret
                  exact ⟨by rw [HX.out]; rfl,HG.out⟩
            · have hlb:lb=false:=by rw [L7.out,if_pos rfl]; simp; omega
              clear L7
              have hz':(sum:Int)≠0∨l≠0∨wh≠0:=by omega
              rcases hz' with hz' | hz' | hz'
              all_goals (have hz'':=hz'; rw [← bne_iff_ne] at hz''; go_wp2_with fail)
              all_goals (go_ret; exact ⟨by rw [HE.out,hlb]; rfl,HW.out⟩)
          · have t2:(k==2)=false:=by simpa using hk
            by_cases hz:l=wh
            · subst hz
              have hlb:lb=true:=by rw [L7.out,if_neg hk]; simp
              clear L7
              by_cases hmd:md<0∨511<md
              · have HX:Hid (E=12):=Lib.hid (by rw [HE.out,hlb,if_neg (by simp),if_pos hmd])
                clear HE
                rcases hmd with hmd | hmd
                · go_wp2_with fail
                  go_ret
                  exact ⟨by rw [HX.out]; rfl,HW.out⟩
                · have hm0 : ¬ md<0:=by omega
                  go_wp2_with fail
                  go_ret
                  exact ⟨by rw [HX.out]; rfl,HW.out⟩
              · have HX:Hid (E=if tb=false then 13 else 0):=Lib.hid (by rw [HE.out,hlb,if_neg (by simp),if_neg hmd])
                have hm0 : ¬ md<0:=by omega
                have hm1 : ¬ 511<md:=by omega
                clear HE hmd
                go_wp2_with fail
                refine (HT.out _).mono ?_
                rintro e w4 ⟨rfl,hU4⟩
                have HG:=Lib.hid (HW.out.then hU4)
                clear hU4 dA
                cases tb with
                | false =>
                  go_wp2
                  go_ret
                  exact ⟨by rw [HX.out]; rfl,HG.out⟩
                | true =>
                  go_wp2
                  go_ret
                  exact ⟨by rw [HX.out]; rfl,HG.out⟩
            · have hlb:lb=false:=by rw [L7.out,if_neg hk]; simp [hz]
              clear L7
              have tz:(l != wh)=true:=by simpa using hz
              go_wp2_with fail
              go_ret
              exact ⟨by rw [HE.out,hlb]; rfl,HW.out⟩
     · go_wp2_with fail
       have HW:Hid (Upd [] w (w2.alloc (.cells #[.int .i64 l,.int .i64 wh,.int .i64 pos] 3))):=Lib.hid (HU.out.alloc _)
       have hB3:=HBB.out.alloc (.cells #[.int .i64 l,.int .i64 wh,.int .i64 pos] 3)
       have hS:=Blk.new w2 [.int .i64 l,.int .i64 wh,.int .i64 pos] 3
       change Code.wp _ _ _ _ (w2.alloc (.cells [.int .i64 l,.int .i64 wh,.int .i64 pos].toArray 3))
       change Blk (w2.alloc (.cells [.int .i64 l,.int .i64 wh,.int .i64 pos].toArray 3)) _ _ _ at hB3
       change Hid (Upd [] w (w2.alloc (.cells [.int .i64 l,.int .i64 wh,.int .i64 pos].toArray 3))) at HW
       generalize w2.alloc (.cells [.int .i64 l,.int .i64 wh,.int .i64 pos].toArray 3)=w3 at *
       generalize w2.heap.size=b3 at *
       have dA:=hB3.all
       have eA:=hS.all
       clear hS hB3 HBB cA
       go_loopg [7,45] 3 (fun gg s7 s45 wr => ∃ i,i≤3∧gg=3-i∧s45 = .int .i64 (i:Nat)∧Hid (0<i→ya l=true)∧Hid (1<i→ya wh=true)∧Hid (2<i→ya pos=true)∧wr=w3)
       case atStart=>exact ⟨0,by omega,rfl,rfl,Lib.hid (by omega),Lib.hid (by omega),Lib.hid (by omega),rfl⟩
       case round =>
        obtain ⟨i,hi,rfl,rfl,S1,S2,S3,rfl⟩:=hrel
        have hcs:i=0∨i=1∨i=2∨i=3:=by omega
        rcases hcs with rfl | rfl | rfl | rfl
        · cases hs:ya l with
          | true =>
            have hs':=hs
            rw [yM] at hs'
            have q0 : ¬ l<0:=by simp at hs'; omega
            have q1 : ¬ 2147483647<l:=by simp at hs'; omega
            clear hs'
            have HS:=Lib.hid hs
            clear hs
            go_wp2_with fail
            have hs:=HS.out
            go_roundg (3-1)
            all_goals first
             | omega
             | exact ⟨1,by omega,rfl,rfl,Lib.hid (fun _=>hs),Lib.hid (by omega),Lib.hid (by omega),rfl⟩
          | false =>
            have hlb:lb=false:=L2.out hs
            have hs':=hs
            rw [yM] at hs'
            have q0:l<0∨2147483647<l:=by simp at hs'; omega
            clear hs' hs
            rcases q0 with q0 | q0
            · go_wp2_with fail
              go_ret
              exact ⟨by rw [HE.out,hlb]; rfl,HW.out⟩
            · have q1 : ¬ l<0:=by omega
              go_wp2_with fail
              go_ret
              exact ⟨by rw [HE.out,hlb]; rfl,HW.out⟩
        · cases hs:ya wh with
          | true =>
            have hs':=hs
            rw [yM] at hs'
            have q0 : ¬ wh<0:=by simp at hs'; omega
            have q1 : ¬ 2147483647<wh:=by simp at hs'; omega
            clear hs'
            have HS:=Lib.hid hs
            clear hs
            go_wp2_with fail
            have hs:=HS.out
            go_roundg (3-2)
            all_goals first
             | omega
             | exact ⟨2,by omega,rfl,rfl,Lib.hid (fun _=>S1.out (by omega)),Lib.hid (fun _=>hs),Lib.hid (by omega),rfl⟩
          | false =>
            have hlb:lb=false:=L3.out hs
            have hs':=hs
            rw [yM] at hs'
            have q0:wh<0∨2147483647<wh:=by simp at hs'; omega
            clear hs' hs
            rcases q0 with q0 | q0
            · go_wp2_with fail
              go_ret
              exact ⟨by rw [HE.out,hlb]; rfl,HW.out⟩
            · have q1 : ¬ wh<0:=by omega
              go_wp2_with fail
              go_ret
              exact ⟨by rw [HE.out,hlb]; rfl,HW.out⟩
        · cases hs:ya pos with
          | true =>
            have hs':=hs
            rw [yM] at hs'
            have q0 : ¬ pos<0:=by simp at hs'; omega
            have q1 : ¬ 2147483647<pos:=by simp at hs'; omega
            clear hs'
            have HS:=Lib.hid hs
            clear hs
            go_wp2_with fail
            have hs:=HS.out
            go_roundg (3-3)
            all_goals first
             | omega
             | exact ⟨3,by omega,rfl,rfl,Lib.hid (fun _=>S1.out (by omega)),Lib.hid (fun _=>S2.out (by omega)),Lib.hid (fun _=>hs),rfl⟩
          | false =>
            have hlb:lb=false:=L4.out hs
            have hs':=hs
            rw [yM] at hs'
            have q0:pos<0∨2147483647<pos:=by simp at hs'; omega
            clear hs' hs
            rcases q0 with q0 | q0
            · go_wp2_with fail
              go_ret
              exact ⟨by rw [HE.out,hlb]; rfl,HW.out⟩
            · have q1 : ¬ pos<0:=by omega
              go_wp2_with fail
              go_ret
              exact ⟨by rw [HE.out,hlb]; rfl,HW.out⟩
        · have L7:=Lib.hid (L6.out (S1.out (by omega)) (S2.out (by omega)) (S3.out (by omega)))
          clear L2 L3 L4 L6 S1 S2 S3 eA
          by_cases hk:k=2
          · subst hk
            have hlb:lb=false:=by rw [L7.out,if_pos rfl]; simp
            clear L7
            go_wp2_with fail
            all_goals (go_ret; exact ⟨by rw [HE.out,hlb]; rfl,HW.out⟩)
          · have t2:(k==2)=false:=by simpa using hk
            have hlb:lb=true:=by rw [L7.out,if_neg hk]; simp
            clear L7
            by_cases hmd:md<0∨511<md
            · have HX:Hid (E=12):=Lib.hid (by rw [HE.out,hlb,if_neg (by simp),if_pos hmd])
              clear HE
              rcases hmd with hmd | hmd
              · go_wp2_with fail
                go_ret
                exact ⟨by rw [HX.out]; rfl,HW.out⟩
              · have hm0 : ¬ md<0:=by omega
                go_wp2_with fail
                go_ret
                exact ⟨by rw [HX.out]; rfl,HW.out⟩
            · have HX:Hid (E=if tb=false then 13 else 0):=Lib.hid (by rw [HE.out,hlb,if_neg (by simp),if_neg hmd])
              have hm0 : ¬ md<0:=by omega
              have hm1 : ¬ 511<md:=by omega
              clear HE hmd
              go_wp2_with fail
              refine (HT.out _).mono ?_
              rintro e w4 ⟨rfl,hU4⟩
              have HG:=Lib.hid (HW.out.then hU4)
              clear hU4 dA
              cases tb with
              | false =>
                go_wp2
                go_ret
                exact ⟨by rw [HX.out]; rfl,HG.out⟩
              | true =>
                go_wp2
                go_ret
                exact ⟨by rw [HX.out]; rfl,HG.out⟩
 · have hnb:nb=false:=by
    rw [HB.out]
    cases okb with
    | false=>rfl
    | true =>
      by_cases h2:a=za p
      · by_cases h4:(kk:Int)=k
        · exact absurd ⟨rfl,by rw [HQ.out]; exact h2,h4⟩ hn
        · simp [h4]
      · simp [h2]
   have hn':okb=false ∨ ¬ (zd a).toList=p.toList∨((kk:Int) != k)=true:=by
    cases okb with
    | false=>exact .inl rfl
    | true =>
      by_cases h2:(zd a).toList=p.toList
      · exact .inr (.inr (by simpa using fun h4=>hn ⟨rfl,h2,h4⟩))
      · exact .inr (.inl h2)
   clear hn
   rcases hn' with rfl | hn' | hn'
   all_goals go_wp2_with fail
   all_goals (try (exfalso; simp_all; done))
   all_goals (go_ret; exact ⟨by rw [HE.out,hnb]; rfl,HU.out⟩)
end Go.Proofs.YtfkcdnaghndgfaaGreatDoor
namespace Go.Proofs.YtfkcdnaghndgfaaGreatDoor
open Go.RowKit
theorem ZK {P:Program} {fn:Func} {p u:Tmp} {ty:TypeId} (h:fn.results = #[.cell p ty,.tmp u]) (tmps:Array Value) (w:World) (g:Nat) (t:TypeId) (cs:Array Value) (fr:Nat×Nat) (d:TypeDesc) (v:Value)
 (hp:tmps.getD p undef = .pointer (some ⟨g,0,none⟩)) (hv:tmps.getD u undef=v) (hg:w.heap[g]? =some (.cells cs t fr))
 (hu:P.underlying ty=some d) (hd:(match d with | .struct _ | .array _ _=>true | _=>false)=true) (hi:(P.info? ty).map (·.size)=some cs.size) :
 (results fn tmps).run P w = .ok (.tuple #[.agg cs,v]) w:=by
 rw [results_cell_tmp h,hp,hv]
 simp [asAddr,run_loadVar_row w g t ty cs fr d hg hu hd hi,Result.andThen]
theorem ziv:(Tryz.prog.info? 198).map (·.size)=some 3:=by kernel_rfl
def lAt:List Nat:=[3,4,5,6,7,8,9,10,11,13,15,17,19,23,27,31,35,43,51,59,67,83,99,115,131,163,195,227,258,259]
def xC:List Nat:=[0,0,0,0,0,0,0,0,1,1,1,1,2,2,2,2,3,3,3,3,4,4,4,4,5,5,5,5,0]
def isL (n i:Nat):Prop:=lAt.getD i 0≤n∧n<lAt.getD (i+1) 0
instance (n i:Nat):Decidable (isL n i):=by unfold isL; infer_instance
def zP (n:Nat):Nat→Nat→Option Nat
 | 0,_=>none
 | m+1,i=>if isL n i then some i else zP n m (i+1)
theorem zdx : ∀ n:Fin 259,3≤n.val→(zP n.val 29 0).isSome=true:=by decide +kernel
def JY (i n:Nat):Value := .agg #[.int .i64 ((257+i:Nat):Int),.int .i64 (xC.getD i 0:Nat),.int .i64 ((n-lAt.getD i 0:Nat):Int)]
set_option maxRecDepth 100000 in
set_option maxHeartbeats 3200000 in
theorem VT (n:Nat) (w:World) (h3:3≤n) (h258:n≤258) :
 Calls Tryz.prog 146 #[.int .i64 (n:Nat)] w fun e w' => ∃ i,zP n 29 0=some i∧e = .returned (.tuple #[JY i n,.bool true])∧Upd [] w w':=by
 have hall:=zdx ⟨n,by omega⟩ h3
 have HF:=Lib.hid hall
 clear hall
 go_enter Tryz.func146,Tryz.ntmps146
 go_wp2
 obtain ⟨w2,hw2⟩ : ∃ w2,w2=((w.alloc (Obj.cells #[.int .i64 0,.int .i64 0,.int .i64 0] 198)).alloc (Obj.cells (zf lAt).toArray 3)).alloc (Obj.cells (zf xC).toArray 3):=⟨_,rfl⟩
 change Code.wp _ _ _ _ (((w.alloc (Obj.cells #[.int .i64 0,.int .i64 0,.int .i64 0] 198)).alloc (Obj.cells (zf lAt).toArray 3)).alloc (Obj.cells (zf xC).toArray 3))
 have hU2:Upd [] w w2:=by rw [hw2]; exact (((Upd.refl [] w).alloc _).alloc _).alloc _
 have hS:Blk w2 w.heap.size [.int .i64 0,.int .i64 0,.int .i64 0] 198:=by rw [hw2]; exact ((Blk.new w [.int .i64 0,.int .i64 0,.int .i64 0] 198).alloc _).alloc _
 have hA:Blk w2 (w.heap.size+1) (zf lAt) 3:=by
  have h:=(Blk.new (w.alloc (Obj.cells #[.int .i64 0,.int .i64 0,.int .i64 0] 198)) (zf lAt) 3).alloc (Obj.cells (zf xC).toArray 3)
  rw [World.size_alloc] at h
  rw [hw2]; exact h
 have hB:Blk w2 (w.heap.size+1+1) (zf xC) 3:=by
  have h:=Blk.new ((w.alloc (Obj.cells #[.int .i64 0,.int .i64 0,.int .i64 0] 198)).alloc (Obj.cells (zf lAt).toArray 3)) (zf xC) 3
  rw [World.size_alloc,World.size_alloc] at h
  rw [hw2]; exact h
 rw [← hw2]
 clear hw2
 go_loopg [6,11] 29 (fun g s6 s11 wr => ∃ i,i≤29∧g=29-i∧s11 = .int .i64 (i:Nat)∧Hid (zP n 29 0=zP n (29-i) i)∧w2=wr)
 case atStart=>exact ⟨0,by omega,rfl,rfl,Lib.hid rfl,rfl⟩
 case round =>
  obtain ⟨i,hi,rfl,rfl,HL,rfl⟩:=hrel
  by_cases hc:i<29
  · have hcz:(i:Int)<29:=by omega
    have hst:zP n (29-i) i=if isL n i then some i else zP n (29-(i+1)) (i+1):=by
     rw [show 29-i=(29-(i+1))+1 by omega]; rfl
    have HST:=Lib.hid hst
    clear hst
    have hget : ∀ (l:List Nat) (j:Nat),j<l.length→l[j]? =some (l.getD j 0):=fun l j h=>by rw [List.getD,List.getElem?_eq_getElem h]; rfl
    have d1:=hA.cell i (zt _ _ _ (hget lAt i (by show i<30; omega)))
    have d2:=hA.cell (i+1) (zt _ _ _ (hget lAt (i+1) (by show i+1<30; omega)))
    have d3:=hB.cell i (zt _ _ _ (hget xC i (by show i<29; omega)))
    have s0:=hS.cell 0 rfl
    have fA:=hS.frz
    have sA:=hS.all
    clear hget
    have HIL:=Lib.hid (show isL n i↔lAt.getD i 0≤n∧n<lAt.getD (i+1) 0 from Iff.rfl)
    have HLV:=Lib.hid (show JY i n = .agg #[.int .i64 ((257+i:Nat):Int),.int .i64 (xC.getD i 0:Nat),.int .i64 ((n-lAt.getD i 0:Nat):Int)] from rfl)
    generalize lAt.getD i 0=p at *
    generalize lAt.getD (i+1) 0=q at *
    generalize xC.getD i 0=bb at *
    have hi30:(i:Int)<30:=by omega
    have hi31:(i:Int)+1<30:=by omega
    have hi01:(0:Int)≤(i:Int)+1:=by omega
    by_cases hp:p≤n
    · have t1:decide ((p:Int)≤(n:Int))=true:=decide_eq_true (by omega)
      have t1':decide (p≤n)=true:=decide_eq_true hp
      have hpz:(p:Int)≤(n:Int):=by omega
      by_cases hq:n<q
      · have t2:decide ((n:Int)<(q:Int))=true:=decide_eq_true (by omega)
        have t2':decide (n<q)=true:=decide_eq_true hq
        have hqz:(n:Int)<(q:Int):=by omega
        have e1:IntKind.i64.wrap ((n:Int)-(p:Int))=((n-p:Nat):Int):=by rw [IntWalk.i64_in _ (by omega)]; omega
        have e2:IntKind.i64.wrap (257+(i:Int))=((257+i:Nat):Int):=by rw [IntWalk.i64_in _ (by omega)]; omega
        go_wp2
        go_region_law (fail)
        all_goals go_wp2
        all_goals (
         have hB9:=((hS.set 0 (.int .i64 (257+(i:Int)))).set 1 (.int .i64 (bb:Nat))).set 2 (.int .i64 ((n-p:Nat):Int))
         refine bodyPost_ret (ZK rfl _ _ w.heap.size _ _ _ _ (.bool true) (by simp [Act.put]) (by simp [Act.put]) hB9 Tryz.underlying198 rfl (by rw [ziv]; rfl)) (by simp [Act.put]) ⟨i,?_,?_,?_⟩
         · rw [HL.out,HST.out,if_pos (HIL.out.2 ⟨hp,hq⟩)]
         · rw [HLV.out]; rfl
         · exact (((hU2.setCell (.inr (Nat.le_refl _)) _).setCell (.inr (Nat.le_refl _)) _).setCell (.inr (Nat.le_refl _)) _).drew)
      · have t2:decide ((n:Int)<(q:Int))=false:=decide_eq_false (by omega)
        have t2':decide (n<q)=false:=decide_eq_false hq
        go_wp2
        go_roundg (29-(i+1))
        · exact ⟨i+1,by omega,rfl,by first | rfl | go_num,Lib.hid (by rw [HL.out,HST.out,if_neg (fun h=>hq (HIL.out.1 h).2)]),rfl⟩
        · omega
    · have t1:decide ((p:Int)≤(n:Int))=false:=decide_eq_false (by omega)
      have t1':decide (p≤n)=false:=decide_eq_false hp
      go_wp2
      go_roundg (29-(i+1))
      · exact ⟨i+1,by omega,rfl,by first | rfl | go_num,Lib.hid (by rw [HL.out,HST.out,if_neg (fun h=>hp (HIL.out.1 h).1)]),rfl⟩
      · omega
  · exfalso
    have h1:=HL.out
    rw [show 29-i=0 by omega] at h1
    have h2:=HF.out
    rw [h1] at h2
    cases h2
def dAt:List Nat:=[1,2,3,4,5,7,9,13,17,25,33,49,65,97,129,193,257,385,513,769,1025,1537,2049,3073,4097,6145,8193,12289,16385,24577,32769]
def dBt (i:Nat):Nat:=i/2-1
def isD (n i:Nat):Prop:=dAt.getD i 0≤n∧n<dAt.getD (i+1) 0
instance (n i:Nat):Decidable (isD n i):=by unfold isD; infer_instance
def jb (n:Nat):Nat→Nat→Option Nat
 | 0,_=>none
 | m+1,i=>if isD n i then some i else jb n m (i+1)
theorem Yr (n m i:Nat):jb n (m+1) i=if isD n i then some i else jb n m (i+1):=rfl
theorem WX (n:Nat) : ∀ m i,dAt.getD i 0≤n→n<dAt.getD (i+m) 0 → ∃ r,jb n m i=some r∧i≤r∧r<i+m
 | 0,i,h1,h2=>by rw [Nat.add_zero] at h2; omega
 | m+1,i,h1,h2=>by
   rw [Yr]
   by_cases h:isD n i
   · exact ⟨i,by rw [if_pos h],by omega,by omega⟩
   · rw [if_neg h]
     have h3:dAt.getD (i+1) 0≤n:=by
      unfold isD at h
      omega
     obtain ⟨r,r1,r2,r3⟩:=WX n m (i+1) h3 (by rw [show i+1+m=i+(m+1) by omega]; exact h2)
     exact ⟨r,r1,by omega,by omega⟩
theorem jM (n:Nat) (h1:1≤n) (h2:n≤32768) : ∃ r,jb n 30 0=some r∧r<30:=by
 obtain ⟨r,r1,_,r3⟩:=WX n 30 0 h1 (by show n<32769; omega)
 exact ⟨r,r1,by omega⟩
def Yk (i n:Nat):Value := .agg #[.int .i64 (i:Nat),.int .i64 (dBt i:Nat),.int .i64 ((n-dAt.getD i 0:Nat):Int)]
end Go.Proofs.YtfkcdnaghndgfaaGreatDoor
