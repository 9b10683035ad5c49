/- Package swingleref19: Right: its walk. -/
import Derived.Test.YtigjingielnaoaaGreatDoorQAG
import Derived.Test.YtigjingielnaoaaGreatDoorQAK
set_option linter.unusedVariables false
set_option linter.unusedSimpArgs false
set_option linter.unusedSectionVars false
namespace Go.Proofs.YtigjingielnaoaaGreatDoor
open Go.RowKit
theorem yO (n:Int):yq n=!(decide (n<0)||decide (2147483647<n)):=by
 unfold yq
 rw [Bool.eq_iff_iff]
 simp
 omega
theorem Kl {r:RecD} (h:r.m≠0∧r.m≠8):xH r=false:=by unfold xH; rw [if_pos (.inl h)]
theorem Kx {r:RecD} (h:yq r.l=false):xH r=false:=by unfold xH; rw [if_pos (.inr (.inl h))]
theorem KU {r:RecD} (h:yq r.wh=false):xH r=false:=by unfold xH; rw [if_pos (.inr (.inr (.inl h)))]
theorem Wl {r:RecD} (h:yq r.pos=false):xH r=false:=by unfold xH; rw [if_pos (.inr (.inr (.inr h)))]
theorem Kj {r:RecD} (hm:r.m=0∨r.m=8) (h1:yq r.l=true) (h2:yq r.wh=true) (h3:yq r.pos=true) :
 xH r=if r.k=2 then decide (r.sum=0)&&decide (r.l=0)&&decide (r.wh=0)&&decide (r.m=0) else decide (r.m=8)||decide (r.l=r.wh):=by
 unfold xH
 rw [h1,h2,h3,if_neg]
 simp
 omega
set_option maxRecDepth 100000 in
set_option maxHeartbeats 8000000 in
theorem xF (r:RecD) (w:World) (h:r.Fits):Calls Tryz.prog 51 #[r.v] w fun e w'=>e = .returned (.int .i64 (zM r:Nat))∧Upd [] w w':=by
 have hp:=h.p
 have hsz:(zf (zF r.k r.p)).size≤1100000:=by have:=xV r.k r.p; rw [zh]; omega
 have HN:=Lib.hid (fun w=>kv r w h)
 have HP:=Lib.hid (fun w=>qm (zf (zF r.k r.p)) w hsz)
 rw [zz _ (kI r.k r.p)] at HP
 have HT:=Lib.hid (fun w=>Xu r w h)
 have HE:Hid (zM r=if vh r=false then 5 else if xH r=false then 2 else if r.md<0∨511<r.md then 12 else if xj r.k r.t=false then 13 else 0):=Lib.hid rfl
 have HB:Hid (vh r=((zv (zF r.k r.p)).2.2&&decide ((zv (zF r.k r.p)).1=ze r.p)&&decide (((zv (zF r.k r.p)).2.1:Int)=r.k))):=Lib.hid rfl
 have HA:Hid (∀ x∈(zv (zF r.k r.p)).1,x<256):=Lib.hid (YW (kI r.k r.p))
 have L1:=Lib.hid (@Kl r)
 have L2:=Lib.hid (@Kx r)
 have L3:=Lib.hid (@KU r)
 have L4:=Lib.hid (@Wl r)
 have L5:=Lib.hid (@Kj r)
 generalize zM r=E at *
 generalize xj r.k r.t=tb at *
 generalize xH r=lb at *
 generalize vh r=nb at *
 generalize zv (zF r.k r.p)=pp at *
 generalize zf (zF r.k r.p)=S at *
 clear hsz
 obtain ⟨a,kk,okb⟩:=pp
 unfold jq at HP
 dsimp only at HP HB HA
 obtain ⟨p,m,sum,l,wh,k,md,t,pos⟩:=r
 unfold RecD.v at *
 dsimp only at *
 have HQ:=Lib.hid (ki a p HA.out)
 clear HA
 go_enter Tryz.func51,Tryz.ntmps51
 go_wp2_with fail
 refine (HN.out _).mono ?_
 rintro e w1 ⟨rfl,hU1⟩
 go_wp2_with fail
 refine (HP.out _).mono ?_
 rintro e w2 ⟨rfl,hU2⟩
 have hU:Upd [] w w2:=(((Upd.refl [] w).alloc _).then hU1).then hU2
 have hB:=((Blk.new w [.string p,.int .i64 m,.int .u32 (sum:Nat),.int .i64 l,.int .i64 wh,.int .i64 k,.int .i64 md,.int .u32 (t:Nat),.int .i64 pos] 52).upd hU1 (by simp)).upd hU2 (by simp)
 generalize w.heap.size=b0 at *
 have cA:=hB.all
 have HBB:=Lib.hid hB
 have HU:=Lib.hid hU
 clear hB hU hU1 hU2
 by_cases hn:okb=true∧(zf a).toList=p.toList∧(kk:Int)=k
 · obtain ⟨rfl,h2,h4⟩:=hn
   have hnb:nb=true:=by
    have h2':=h2
    rw [HQ.out] at h2'
    rw [HB.out]
    simp [h2',h4]
   have h3:((kk:Int) != k)=false:=by simpa using h4
   rw [hnb,if_neg (by simp)] at HE
   clear hnb h4 HB HQ HP HN
   by_cases hm:m=0∨m=8
   rotate_left
   · have hlb:lb=false:=L1.out (by omega)
     have hm0 : ¬ m=0:=by omega
     have hm8 : ¬ m=8:=by omega
     have t0:(m != 0)=true:=by simpa using hm0
     have t8:(m != 8)=true:=by simpa using hm8
     clear hm
     go_wp2_with fail
     go_ret
     exact ⟨by rw [HE.out,hlb]; rfl,HU.out⟩
   · have L6:=Lib.hid (L5.out hm)
     clear L1 L5
     rcases hm with rfl | rfl
     · go_wp2_with fail
       have HW:Hid (Upd [] w (w2.alloc (.cells #[.int .i64 l,.int .i64 wh,.int .i64 pos] 3))):=Lib.hid (HU.out.alloc _)
       have hB3:=HBB.out.alloc (.cells #[.int .i64 l,.int .i64 wh,.int .i64 pos] 3)
       have hS:=Blk.new w2 [.int .i64 l,.int .i64 wh,.int .i64 pos] 3
       change Code.wp _ _ _ _ (w2.alloc (.cells [.int .i64 l,.int .i64 wh,.int .i64 pos].toArray 3))
       change Blk (w2.alloc (.cells [.int .i64 l,.int .i64 wh,.int .i64 pos].toArray 3)) _ _ _ at hB3
       change Hid (Upd [] w (w2.alloc (.cells [.int .i64 l,.int .i64 wh,.int .i64 pos].toArray 3))) at HW
       generalize w2.alloc (.cells [.int .i64 l,.int .i64 wh,.int .i64 pos].toArray 3)=w3 at *
       generalize w2.heap.size=b3 at *
       have dA:=hB3.all
       have eA:=hS.all
       clear hS hB3 HBB cA
       go_loopg [7,45] 3 (fun gg s7 s45 wr => ∃ i,i≤3∧gg=3-i∧s45 = .int .i64 (i:Nat)∧Hid (0<i→yq l=true)∧Hid (1<i→yq wh=true)∧Hid (2<i→yq pos=true)∧wr=w3)
       case atStart=>exact ⟨0,by omega,rfl,rfl,Lib.hid (by omega),Lib.hid (by omega),Lib.hid (by omega),rfl⟩
       case round =>
        obtain ⟨i,hi,rfl,rfl,S1,S2,S3,rfl⟩:=hrel
        have hcs:i=0∨i=1∨i=2∨i=3:=by omega
        rcases hcs with rfl | rfl | rfl | rfl
        · cases hs:yq l with
          | true =>
            have hs':=hs
            rw [yO] at hs'
            have q0 : ¬ l<0:=by simp at hs'; omega
            have q1 : ¬ 2147483647<l:=by simp at hs'; omega
            clear hs'
            have HS:=Lib.hid hs
            clear hs
            go_wp2_with fail
            have hs:=HS.out
            go_roundg (3-1)
            all_goals first
             | omega
             | exact ⟨1,by omega,rfl,rfl,Lib.hid (fun _=>hs),Lib.hid (by omega),Lib.hid (by omega),rfl⟩
          | false =>
            have hlb:lb=false:=L2.out hs
            have hs':=hs
            rw [yO] at hs'
            have q0:l<0∨2147483647<l:=by simp at hs'; omega
            clear hs' hs
            rcases q0 with q0 | q0
            · go_wp2_with fail
              go_ret
              exact ⟨by rw [HE.out,hlb]; rfl,HW.out⟩
            · have q1 : ¬ l<0:=by omega
              go_wp2_with fail
              go_ret
              exact ⟨by rw [HE.out,hlb]; rfl,HW.out⟩
        · cases hs:yq wh with
          | true =>
            have hs':=hs
            rw [yO] at hs'
            have q0 : ¬ wh<0:=by simp at hs'; omega
            have q1 : ¬ 2147483647<wh:=by simp at hs'; omega
            clear hs'
            have HS:=Lib.hid hs
            clear hs
            go_wp2_with fail
            have hs:=HS.out
            go_roundg (3-2)
            all_goals first
             | omega
             | exact ⟨2,by omega,rfl,rfl,Lib.hid (fun _=>S1.out (by omega)),Lib.hid (fun _=>hs),Lib.hid (by omega),rfl⟩
          | false =>
            have hlb:lb=false:=L3.out hs
            have hs':=hs
            rw [yO] at hs'
            have q0:wh<0∨2147483647<wh:=by simp at hs'; omega
            clear hs' hs
            rcases q0 with q0 | q0
            · go_wp2_with fail
              go_ret
              exact ⟨by rw [HE.out,hlb]; rfl,HW.out⟩
            · have q1 : ¬ wh<0:=by omega
              go_wp2_with fail
              go_ret
              exact ⟨by rw [HE.out,hlb]; rfl,HW.out⟩
        · cases hs:yq pos with
          | true =>
            have hs':=hs
            rw [yO] at hs'
            have q0 : ¬ pos<0:=by simp at hs'; omega
            have q1 : ¬ 2147483647<pos:=by simp at hs'; omega
            clear hs'
            have HS:=Lib.hid hs
            clear hs
            go_wp2_with fail
            have hs:=HS.out
            go_roundg (3-3)
            all_goals first
             | omega
             | exact ⟨3,by omega,rfl,rfl,Lib.hid (fun _=>S1.out (by omega)),Lib.hid (fun _=>S2.out (by omega)),Lib.hid (fun _=>hs),rfl⟩
          | false =>
            have hlb:lb=false:=L4.out hs
            have hs':=hs
            rw [yO] at hs'
            have q0:pos<0∨2147483647<pos:=by simp at hs'; omega
            clear hs' hs
            rcases q0 with q0 | q0
            · go_wp2_with fail
              go_ret
              exact ⟨by rw [HE.out,hlb]; rfl,HW.out⟩
            · have q1 : ¬ pos<0:=by omega
              go_wp2_with fail
              go_ret
              exact ⟨by rw [HE.out,hlb]; rfl,HW.out⟩
        · have L7:=Lib.hid (L6.out (S1.out (by omega)) (S2.out (by omega)) (S3.out (by omega)))
          clear L2 L3 L4 L6 S1 S2 S3 eA
          by_cases hk:k=2
          · subst hk
            by_cases hz:sum=0∧l=0∧wh=0
            · obtain ⟨rfl,rfl,rfl⟩:=hz
              have hlb:lb=true:=by rw [L7.out]; rfl
              clear L7
              by_cases hmd:md<0∨511<md
              · have HX:Hid (E=12):=Lib.hid (by rw [HE.out,hlb,if_neg (by simp),if_pos hmd])
                clear HE
                rcases hmd with hmd | hmd
                · go_wp2_with fail
                  go_ret
                  exact ⟨by rw [HX.out]; rfl,HW.out⟩
                · have hm0 : ¬ md<0:=by omega
                  go_wp2_with fail
                  go_ret
                  exact ⟨by rw [HX.out]; rfl,HW.out⟩
              · have HX:Hid (E=if tb=false then 13 else 0):=Lib.hid (by rw [HE.out,hlb,if_neg (by simp),if_neg hmd])
                have hm0 : ¬ md<0:=by omega
                have hm1 : ¬ 511<md:=by omega
                clear HE hmd
                go_wp2_with fail
                refine (HT.out _).mono ?_
                rintro e w4 ⟨rfl,hU4⟩
                have HG:=Lib.hid (HW.out.then hU4)
                clear hU4 dA
                cases tb with
                | false =>
                  go_wp2
                  go_ret
                  exact ⟨by rw [HX.out]; rfl,HG.out⟩
                | true =>
                  go_wp2
                  go_ret
                  exact ⟨by rw [HX.out]; rfl,HG.out⟩
            · have hlb:lb=false:=by rw [L7.out,if_pos rfl]; simp; omega
              clear L7
              have hz':(sum:Int)≠0∨l≠0∨wh≠0:=by omega
              rcases hz' with hz' | hz' | hz'
              all_goals (have hz'':=hz'; rw [← bne_iff_ne] at hz''; go_wp2_with fail)
              all_goals (go_ret; exact ⟨by rw [HE.out,hlb]; rfl,HW.out⟩)
          · have t2:(k==2)=false:=by simpa using hk
            by_cases hz:l=wh
            · subst hz
              have hlb:lb=true:=by rw [L7.out,if_neg hk]; simp
              clear L7
              by_cases hmd:md<0∨511<md
              · have HX:Hid (E=12):=Lib.hid (by rw [HE.out,hlb,if_neg (by simp),if_pos hmd])
                clear HE
                rcases hmd with hmd | hmd
                · go_wp2_with fail
                  go_ret
                  exact ⟨by rw [HX.out]; rfl,HW.out⟩
                · have hm0 : ¬ md<0:=by omega
                  go_wp2_with fail
                  go_ret
                  exact ⟨by rw [HX.out]; rfl,HW.out⟩
              · have HX:Hid (E=if tb=false then 13 else 0):=Lib.hid (by rw [HE.out,hlb,if_neg (by simp),if_neg hmd])
                have hm0 : ¬ md<0:=by omega
                have hm1 : ¬ 511<md:=by omega
                clear HE hmd
                go_wp2_with fail
                refine (HT.out _).mono ?_
                rintro e w4 ⟨rfl,hU4⟩
                have HG:=Lib.hid (HW.out.then hU4)
                clear hU4 dA
                cases tb with
                | false =>
                  go_wp2
                  go_ret
                  exact ⟨by rw [HX.out]; rfl,HG.out⟩
                | true =>
                  go_wp2
                  go_ret
                  exact ⟨by rw [HX.out]; rfl,HG.out⟩
            · have hlb:lb=false:=by rw [L7.out,if_neg hk]; simp [hz]
              clear L7
              have tz:(l != wh)=true:=by simpa using hz
              go_wp2_with fail
              go_ret
              exact ⟨by rw [HE.out,hlb]; rfl,HW.out⟩
     · go_wp2_with fail
       have HW:Hid (Upd [] w (w2.alloc (.cells #[.int .i64 l,.int .i64 wh,.int .i64 pos] 3))):=Lib.hid (HU.out.alloc _)
       have hB3:=HBB.out.alloc (.cells #[.int .i64 l,.int .i64 wh,.int .i64 pos] 3)
       have hS:=Blk.new w2 [.int .i64 l,.int .i64 wh,.int .i64 pos] 3
       change Code.wp _ _ _ _ (w2.alloc (.cells [.int .i64 l,.int .i64 wh,.int .i64 pos].toArray 3))
       change Blk (w2.alloc (.cells [.int .i64 l,.int .i64 wh,.int .i64 pos].toArray 3)) _ _ _ at hB3
       change Hid (Upd [] w (w2.alloc (.cells [.int .i64 l,.int .i64 wh,.int .i64 pos].toArray 3))) at HW
       generalize w2.alloc (.cells [.int .i64 l,.int .i64 wh,.int .i64 pos].toArray 3)=w3 at *
       generalize w2.heap.size=b3 at *
       have dA:=hB3.all
       have eA:=hS.all
       clear hS hB3 HBB cA
       go_loopg [7,45] 3 (fun gg s7 s45 wr => ∃ i,i≤3∧gg=3-i∧s45 = .int .i64 (i:Nat)∧Hid (0<i→yq l=true)∧Hid (1<i→yq wh=true)∧Hid (2<i→yq pos=true)∧wr=w3)
       case atStart=>exact ⟨0,by omega,rfl,rfl,Lib.hid (by omega),Lib.hid (by omega),Lib.hid (by omega),rfl⟩
       case round =>
        obtain ⟨i,hi,rfl,rfl,S1,S2,S3,rfl⟩:=hrel
        have hcs:i=0∨i=1∨i=2∨i=3:=by omega
        rcases hcs with rfl | rfl | rfl | rfl
        · cases hs:yq l with
          | true =>
            have hs':=hs
            rw [yO] at hs'
            have q0 : ¬ l<0:=by simp at hs'; omega
            have q1 : ¬ 2147483647<l:=by simp at hs'; omega
            clear hs'
            have HS:=Lib.hid hs
            clear hs
            go_wp2_with fail
            have hs:=HS.out
            go_roundg (3-1)
            all_goals first
             | omega
             | exact ⟨1,by omega,rfl,rfl,Lib.hid (fun _=>hs),Lib.hid (by omega),Lib.hid (by omega),rfl⟩
          | false =>
            have hlb:lb=false:=L2.out hs
            have hs':=hs
            rw [yO] at hs'
            have q0:l<0∨2147483647<l:=by simp at hs'; omega
            clear hs' hs
            rcases q0 with q0 | q0
            · go_wp2_with fail
              go_ret
              exact ⟨by rw [HE.out,hlb]; rfl,HW.out⟩
            · have q1 : ¬ l<0:=by omega
              go_wp2_with fail
              go_ret
              exact ⟨by rw [HE.out,hlb]; rfl,HW.out⟩
        · cases hs:yq wh with
          | true =>
            have hs':=hs
            rw [yO] at hs'
            have q0 : ¬ wh<0:=by simp at hs'; omega
            have q1 : ¬ 2147483647<wh:=by simp at hs'; omega
            clear hs'
            have HS:=Lib.hid hs
            clear hs
            go_wp2_with fail
            have hs:=HS.out
            go_roundg (3-2)
            all_goals first
             | omega
             | exact ⟨2,by omega,rfl,rfl,Lib.hid (fun _=>S1.out (by omega)),Lib.hid (fun _=>hs),Lib.hid (by omega),rfl⟩
          | false =>
            have hlb:lb=false:=L3.out hs
            have hs':=hs
            rw [yO] at hs'
            have q0:wh<0∨2147483647<wh:=by simp at hs'; omega
            clear hs' hs
            rcases q0 with q0 | q0
            · go_wp2_with fail
              go_ret
              exact ⟨by rw [HE.out,hlb]; rfl,HW.out⟩
            · have q1 : ¬ wh<0:=by omega
              go_wp2_with fail
              go_ret
              exact ⟨by rw [HE.out,hlb]; rfl,HW.out⟩
        · cases hs:yq pos with
          | true =>
            have hs':=hs
            rw [yO] at hs'
            have q0 : ¬ pos<0:=by simp at hs'; omega
            have q1 : ¬ 2147483647<pos:=by simp at hs'; omega
            clear hs'
            have HS:=Lib.hid hs
            clear hs
            go_wp2_with fail
            have hs:=HS.out
            go_roundg (3-3)
            all_goals first
             | omega
             | exact ⟨3,by omega,rfl,rfl,Lib.hid (fun _=>S1.out (by omega)),Lib.hid (fun _=>S2.out (by omega)),Lib.hid (fun _=>hs),rfl⟩
          | false =>
            have hlb:lb=false:=L4.out hs
            have hs':=hs
            rw [yO] at hs'
            have q0:pos<0∨2147483647<pos:=by simp at hs'; omega
            clear hs' hs
            rcases q0 with q0 | q0
            · go_wp2_with fail
              go_ret
              exact ⟨by rw [HE.out,hlb]; rfl,HW.out⟩
            · have q1 : ¬ pos<0:=by omega
              go_wp2_with fail
              go_ret
              exact ⟨by rw [HE.out,hlb]; rfl,HW.out⟩
        · have L7:=Lib.hid (L6.out (S1.out (by omega)) (S2.out (by omega)) (S3.out (by omega)))
          clear L2 L3 L4 L6 S1 S2 S3 eA
          by_cases hk:k=2
          · subst hk
            have hlb:lb=false:=by rw [L7.out,if_pos rfl]; simp
            clear L7
            go_wp2_with fail
            all_goals (go_ret; exact ⟨by rw [HE.out,hlb]; rfl,HW.out⟩)
          · have t2:(k==2)=false:=by simpa using hk
            have hlb:lb=true:=by rw [L7.out,if_neg hk]; simp
            clear L7
            by_cases hmd:md<0∨511<md
            · have HX:Hid (E=12):=Lib.hid (by rw [HE.out,hlb,if_neg (by simp),if_pos hmd])
              clear HE
              rcases hmd with hmd | hmd
              · go_wp2_with fail
                go_ret
                exact ⟨by rw [HX.out]; rfl,HW.out⟩
              · have hm0 : ¬ md<0:=by omega
                go_wp2_with fail
                go_ret
                exact ⟨by rw [HX.out]; rfl,HW.out⟩
            · have HX:Hid (E=if tb=false then 13 else 0):=Lib.hid (by rw [HE.out,hlb,if_neg (by simp),if_neg hmd])
              have hm0 : ¬ md<0:=by omega
              have hm1 : ¬ 511<md:=by omega
              clear HE hmd
              go_wp2_with fail
              refine (HT.out _).mono ?_
              rintro e w4 ⟨rfl,hU4⟩
              have HG:=Lib.hid (HW.out.then hU4)
              clear hU4 dA
              cases tb with
              | false =>
                go_wp2
                go_ret
                exact ⟨by rw [HX.out]; rfl,HG.out⟩
              | true =>
                go_wp2
                go_ret
                exact ⟨by rw [HX.out]; rfl,HG.out⟩
 · have hnb:nb=false:=by
    rw [HB.out]
    cases okb with
    | false=>rfl
    | true =>
      by_cases h2:a=ze p
      · by_cases h4:(kk:Int)=k
        · exact absurd ⟨rfl,by rw [HQ.out]; exact h2,h4⟩ hn
        · simp [h4]
      · simp [h2]
   have hn':okb=false ∨ ¬ (zf a).toList=p.toList∨((kk:Int) != k)=true:=by
    cases okb with
    | false=>exact .inl rfl
    | true =>
      by_cases h2:(zf a).toList=p.toList
      · exact .inr (.inr (by simpa using fun h4=>hn ⟨rfl,h2,h4⟩))
      · exact .inr (.inl h2)
   clear hn
   rcases hn' with rfl | hn' | hn'
   all_goals go_wp2_with fail
   all_goals (try (exfalso; simp_all; done))
   all_goals (go_ret; exact ⟨by rw [HE.out,hnb]; rfl,HU.out⟩)
end Go.Proofs.YtigjingielnaoaaGreatDoor
namespace Go.Proofs.YtigjingielnaoaaGreatDoor
open Go.RowKit
set_option maxRecDepth 100000 in
set_option maxHeartbeats 6400000 in
theorem zbd (y mo d h mi s:Nat) (w:World) (b1:y<2108) (b1b:1980≤y) (b2:mo<16) (b3:d<32) (b4:h<32) (b5:mi<64) (b6:s<64):Calls Tryz.prog 54 #[.agg (Qv y mo d h mi s).toArray] w fun e w'=>e = .returned (.string (zf (qI y mo d h mi s)))∧Upd [] w w':=by
 unfold Qv
 have e45:({ data := #[45] }:ByteArray).size=1:=rfl
 have e32:({ data := #[32] }:ByteArray).size=1:=rfl
 have e58:({ data := #[58] }:ByteArray).size=1:=rfl
 have HSx:=Lib.hid (fun w=>jR (y/100) w (by omega))
 have zSx:(zf (zV (y/100) 2)).size=2:=by rw [zh,yp]
 have HSy:=Lib.hid (fun w=>jR (y%100) w (by omega))
 have zSy:(zf (zV (y%100) 2)).size=2:=by rw [zh,yp]
 have HSm:=Lib.hid (fun w=>jR mo w (by omega))
 have zSm:(zf (zV mo 2)).size=2:=by rw [zh,yp]
 have HSd:=Lib.hid (fun w=>jR d w (by omega))
 have zSd:(zf (zV d 2)).size=2:=by rw [zh,yp]
 have HSh:=Lib.hid (fun w=>jR h w (by omega))
 have zSh:(zf (zV h 2)).size=2:=by rw [zh,yp]
 have HSi:=Lib.hid (fun w=>jR mi w (by omega))
 have zSi:(zf (zV mi 2)).size=2:=by rw [zh,yp]
 have HSs:=Lib.hid (fun w=>jR s w (by omega))
 have zSs:(zf (zV s 2)).size=2:=by rw [zh,yp]
 have h4:zV y 4=zV (y/100) 2++zV (y%100) 2:=by
  have q1:y/10/10=y/100:=by omega
  have q2:y%100/10%10=y/10%10:=by omega
  have q3:y%100%10=y%10:=by omega
  simp only [zV,List.nil_append,List.append_assoc,List.cons_append,q1,q2,q3]
 have HJ:Hid (zf (qI y mo d h mi s)=(((((((((((zf (zV (y/100) 2))++zf (zV (y%100) 2))++({ data := #[45] }:ByteArray))++zf (zV mo 2))++({ data := #[45] }:ByteArray))++zf (zV d 2))++({ data := #[32] }:ByteArray))++zf (zV h 2))++({ data := #[58] }:ByteArray))++zf (zV mi 2))++({ data := #[58] }:ByteArray))++zf (zV s 2)):=Lib.hid (by unfold qI; rw [h4]; simp only [jI]; rfl)
 clear h4
 have hq:(y:Int)/100=((y/100:Nat):Int):=by omega
 have hr:(y:Int)%100=((y%100:Nat):Int):=by omega
 have hq2:(y:Int).tdiv 100=((y/100:Nat):Int):=by rw [Int.tdiv_eq_ediv_of_nonneg (by omega)]; exact hq
 have hr2:(y:Int).tmod 100=((y%100:Nat):Int):=by rw [Int.tmod_eq_emod_of_nonneg (by omega)]; exact hr
 generalize zf (zV (y/100) 2)=Sx at *
 generalize zf (zV (y%100) 2)=Sy at *
 generalize zf (zV mo 2)=Sm at *
 generalize zf (zV d 2)=Sd at *
 generalize zf (zV h 2)=Sh at *
 generalize zf (zV mi 2)=Si at *
 generalize zf (zV s 2)=Ss at *
 have hya:y/100<100:=by omega
 generalize y/100=ya at *
 generalize y%100=yb at *
 have hwr:IntKind.i64.wrap (ya:Int)=(ya:Int):=IntWalk.i64_in _ (by have:=hya; omega)
 have a1 : ∀ W',(Op.stringOp .add (Sx) (Sy)).run Tryz.prog W' = .ok (.string ((Sx)++Sy)) W':=fun W'=>run_string_add_sum _ _ _ (by (try simp only [ByteArray.size_append,e45,e32,e58]); omega)
 have a2 : ∀ W',(Op.stringOp .add ((Sx)++Sy) (({ data := #[45] }:ByteArray))).run Tryz.prog W' = .ok (.string (((Sx)++Sy)++({ data := #[45] }:ByteArray))) W':=fun W'=>run_string_add_sum _ _ _ (by (try simp only [ByteArray.size_append,e45,e32,e58]); omega)
 have a3 : ∀ W',(Op.stringOp .add (((Sx)++Sy)++({ data := #[45] }:ByteArray)) (Sm)).run Tryz.prog W' = .ok (.string ((((Sx)++Sy)++({ data := #[45] }:ByteArray))++Sm)) W':=fun W'=>run_string_add_sum _ _ _ (by (try simp only [ByteArray.size_append,e45,e32,e58]); omega)
 have a4 : ∀ W',(Op.stringOp .add ((((Sx)++Sy)++({ data := #[45] }:ByteArray))++Sm) (({ data := #[45] }:ByteArray))).run Tryz.prog W' = .ok (.string (((((Sx)++Sy)++({ data := #[45] }:ByteArray))++Sm)++({ data := #[45] }:ByteArray))) W':=fun W'=>run_string_add_sum _ _ _ (by (try simp only [ByteArray.size_append,e45,e32,e58]); omega)
 have a5 : ∀ W',(Op.stringOp .add (((((Sx)++Sy)++({ data := #[45] }:ByteArray))++Sm)++({ data := #[45] }:ByteArray)) (Sd)).run Tryz.prog W' = .ok (.string ((((((Sx)++Sy)++({ data := #[45] }:ByteArray))++Sm)++({ data := #[45] }:ByteArray))++Sd)) W':=fun W'=>run_string_add_sum _ _ _ (by (try simp only [ByteArray.size_append,e45,e32,e58]); omega)
 have a6 : ∀ W',(Op.stringOp .add ((((((Sx)++Sy)++({ data := #[45] }:ByteArray))++Sm)++({ data := #[45] }:ByteArray))++Sd) (({ data := #[32] }:ByteArray))).run Tryz.prog W' = .ok (.string (((((((Sx)++Sy)++({ data := #[45] }:ByteArray))++Sm)++({ data := #[45] }:ByteArray))++Sd)++({ data := #[32] }:ByteArray))) W':=fun W'=>run_string_add_sum _ _ _ (by (try simp only [ByteArray.size_append,e45,e32,e58]); omega)
 have a7 : ∀ W',(Op.stringOp .add (((((((Sx)++Sy)++({ data := #[45] }:ByteArray))++Sm)++({ data := #[45] }:ByteArray))++Sd)++({ data := #[32] }:ByteArray)) (Sh)).run Tryz.prog W' = .ok (.string ((((((((Sx)++Sy)++({ data := #[45] }:ByteArray))++Sm)++({ data := #[45] }:ByteArray))++Sd)++({ data := #[32] }:ByteArray))++Sh)) W':=fun W'=>run_string_add_sum _ _ _ (by (try simp only [ByteArray.size_append,e45,e32,e58]); omega)
 have a8 : ∀ W',(Op.stringOp .add ((((((((Sx)++Sy)++({ data := #[45] }:ByteArray))++Sm)++({ data := #[45] }:ByteArray))++Sd)++({ data := #[32] }:ByteArray))++Sh) (({ data := #[58] }:ByteArray))).run Tryz.prog W' = .ok (.string (((((((((Sx)++Sy)++({ data := #[45] }:ByteArray))++Sm)++({ data := #[45] }:ByteArray))++Sd)++({ data := #[32] }:ByteArray))++Sh)++({ data := #[58] }:ByteArray))) W':=fun W'=>run_string_add_sum _ _ _ (by (try simp only [ByteArray.size_append,e45,e32,e58]); omega)
 have a9 : ∀ W',(Op.stringOp .add (((((((((Sx)++Sy)++({ data := #[45] }:ByteArray))++Sm)++({ data := #[45] }:ByteArray))++Sd)++({ data := #[32] }:ByteArray))++Sh)++({ data := #[58] }:ByteArray)) (Si)).run Tryz.prog W' = .ok (.string ((((((((((Sx)++Sy)++({ data := #[45] }:ByteArray))++Sm)++({ data := #[45] }:ByteArray))++Sd)++({ data := #[32] }:ByteArray))++Sh)++({ data := #[58] }:ByteArray))++Si)) W':=fun W'=>run_string_add_sum _ _ _ (by (try simp only [ByteArray.size_append,e45,e32,e58]); omega)
 have a10 : ∀ W',(Op.stringOp .add ((((((((((Sx)++Sy)++({ data := #[45] }:ByteArray))++Sm)++({ data := #[45] }:ByteArray))++Sd)++({ data := #[32] }:ByteArray))++Sh)++({ data := #[58] }:ByteArray))++Si) (({ data := #[58] }:ByteArray))).run Tryz.prog W' = .ok (.string (((((((((((Sx)++Sy)++({ data := #[45] }:ByteArray))++Sm)++({ data := #[45] }:ByteArray))++Sd)++({ data := #[32] }:ByteArray))++Sh)++({ data := #[58] }:ByteArray))++Si)++({ data := #[58] }:ByteArray))) W':=fun W'=>run_string_add_sum _ _ _ (by (try simp only [ByteArray.size_append,e45,e32,e58]); omega)
 have a11 : ∀ W',(Op.stringOp .add (((((((((((Sx)++Sy)++({ data := #[45] }:ByteArray))++Sm)++({ data := #[45] }:ByteArray))++Sd)++({ data := #[32] }:ByteArray))++Sh)++({ data := #[58] }:ByteArray))++Si)++({ data := #[58] }:ByteArray)) (Ss)).run Tryz.prog W' = .ok (.string ((((((((((((Sx)++Sy)++({ data := #[45] }:ByteArray))++Sm)++({ data := #[45] }:ByteArray))++Sd)++({ data := #[32] }:ByteArray))++Sh)++({ data := #[58] }:ByteArray))++Si)++({ data := #[58] }:ByteArray))++Ss)) W':=fun W'=>run_string_add_sum _ _ _ (by (try simp only [ByteArray.size_append,e45,e32,e58]); omega)
 clear e45 e32 e58 zSx zSy zSm zSd zSh zSi zSs
 have HB1:=Lib.hid (Blk.new w [.int .i64 (y:Nat),.int .i64 (mo:Nat),.int .i64 (d:Nat),.int .i64 (h:Nat),.int .i64 (mi:Nat),.int .i64 (s:Nat)] 93)
 have HU1:=Lib.hid ((Upd.refl [] w).alloc (.cells #[.int .i64 (y:Nat),.int .i64 (mo:Nat),.int .i64 (d:Nat),.int .i64 (h:Nat),.int .i64 (mi:Nat),.int .i64 (s:Nat)] 93))
 go_enter Tryz.func54,Tryz.ntmps54
 go_wp2_with fail
 change Code.wp _ _ _ _ (w.alloc (.cells #[.int .i64 (y:Nat),.int .i64 (mo:Nat),.int .i64 (d:Nat),.int .i64 (h:Nat),.int .i64 (mi:Nat),.int .i64 (s:Nat)] 93))
 generalize w.heap.size=q0 at *
 generalize w.alloc (.cells #[.int .i64 (y:Nat),.int .i64 (mo:Nat),.int .i64 (d:Nat),.int .i64 (h:Nat),.int .i64 (mi:Nat),.int .i64 (s:Nat)] 93)=w2 at *
 refine wp_region_held_drew (S:=fun w'=>Blk w' q0 [.int .i64 (y:Nat),.int .i64 (mo:Nat),.int .i64 (d:Nat),.int .i64 (h:Nat),.int .i64 (mi:Nat),.int .i64 (s:Nat)] 93∧Upd [] w w') (by kernel_rfl) ⟨HB1.out,HU1.out.drew⟩ (fun hHeld=>hdN ?_)
 refine hdT 0 (some 3) ?_
 refine hdT 1 (some 4) ?_ (hy:=by intro w5 hSw; have qA:=hSw.1.all; go_simp; try with_reducible rfl)
 refine hdT 2 (some 5) ?_; refine hdT 4 (some 7) ?_
 refine hdT 5 (some 8) ?_ (hy:=by intro w5 hSw; have qA:=hSw.1.all; go_simp; try with_reducible rfl)
 refine hdT 6 (some 9) ?_; refine hdT 10 (some 13) ?_
 refine hdT 11 (some 14) ?_ (hy:=by intro w5 hSw; have qA:=hSw.1.all; go_simp; try with_reducible rfl)
 refine hdT 15 (some 18) ?_
 refine hdT 16 (some 19) ?_ (hy:=by intro w5 hSw; have qA:=hSw.1.all; go_simp; try with_reducible rfl)
 refine hdT 20 (some 23) ?_
 refine hdT 21 (some 24) ?_ (hy:=by intro w5 hSw; have qA:=hSw.1.all; go_simp; try with_reducible rfl)
 refine hdT 25 (some 28) ?_
 refine hdT 26 (some 29) ?_ (hy:=by intro w5 hSw; have qA:=hSw.1.all; go_simp; try with_reducible rfl)
 refine hdT 30 (some 33) ?_
 refine hdT 31 (some 34) ?_ (hy:=by intro w5 hSw; have qA:=hSw.1.all; go_simp; try with_reducible rfl)
 refine hdO 3 (fun K hK=>?_)
 go_simp
 refine (HSx.out _).mono ?_
 rintro e z9 ⟨rfl,hz9⟩
 go_wp2
 refine hK.out _ _ ⟨hHeld.1.upd hz9 (by simp),hHeld.2.then hz9⟩ (fun hHeld=>hdN ?_)
 clear hK K
 refine hdO 7 (fun K hK=>?_)
 go_simp
 refine (HSy.out _).mono ?_
 rintro e z9 ⟨rfl,hz9⟩
 go_wp2
 refine hK.out _ _ ⟨hHeld.1.upd hz9 (by simp),hHeld.2.then hz9⟩ (fun hHeld=>hdN ?_)
 clear hK K
 refine hdT 8 (some 11) ?_; refine hdT 9 (some 12) ?_
 refine hdO 12 (fun K hK=>?_)
 go_simp
 refine (HSm.out _).mono ?_
 rintro e z9 ⟨rfl,hz9⟩
 go_wp2
 refine hK.out _ _ ⟨hHeld.1.upd hz9 (by simp),hHeld.2.then hz9⟩ (fun hHeld=>hdN ?_)
 clear hK K
 refine hdT 13 (some 16) ?_; refine hdT 14 (some 17) ?_
 refine hdO 17 (fun K hK=>?_)
 go_simp
 refine (HSd.out _).mono ?_
 rintro e z9 ⟨rfl,hz9⟩
 go_wp2
 refine hK.out _ _ ⟨hHeld.1.upd hz9 (by simp),hHeld.2.then hz9⟩ (fun hHeld=>hdN ?_)
 clear hK K
 refine hdT 18 (some 21) ?_; refine hdT 19 (some 22) ?_
 refine hdO 22 (fun K hK=>?_)
 go_simp
 refine (HSh.out _).mono ?_
 rintro e z9 ⟨rfl,hz9⟩
 go_wp2
 refine hK.out _ _ ⟨hHeld.1.upd hz9 (by simp),hHeld.2.then hz9⟩ (fun hHeld=>hdN ?_)
 clear hK K
 refine hdT 23 (some 26) ?_; refine hdT 24 (some 27) ?_
 refine hdO 27 (fun K hK=>?_)
 go_simp
 refine (HSi.out _).mono ?_
 rintro e z9 ⟨rfl,hz9⟩
 go_wp2
 refine hK.out _ _ ⟨hHeld.1.upd hz9 (by simp),hHeld.2.then hz9⟩ (fun hHeld=>hdN ?_)
 clear hK K
 refine hdT 28 (some 31) ?_; refine hdT 29 (some 32) ?_
 refine hdO 32 (fun K hK=>?_)
 go_simp
 refine (HSs.out _).mono ?_
 rintro e z9 ⟨rfl,hz9⟩
 go_wp2
 refine hK.out _ _ ⟨hHeld.1.upd hz9 (by simp),hHeld.2.then hz9⟩ (fun hHeld=>hdN ?_)
 clear hK K
 refine hdT 33 (some 36) ?_; refine hdT 34 (some 2) ?_
 refine wpAnyH_done (by kernel_rfl) ?_ 0
 go_wp2_with fail
 go_ret
 exact ⟨by rw [HJ.out]; rfl,hHeld.2⟩
end Go.Proofs.YtigjingielnaoaaGreatDoor
