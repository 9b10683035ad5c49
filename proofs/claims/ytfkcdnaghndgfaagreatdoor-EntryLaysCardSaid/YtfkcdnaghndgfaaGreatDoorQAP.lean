/- Package local: Name, size, laidRight, time, Size: walks. -/
import Derived.WalkKit
import Derived.Handy
import Derived.Outline
import Derived.BigQuiet
import Derived.Deep.CutBlock
import Derived.Deep.DeepCutAuto
import Derived.Deep.DeepFit
import Derived.Deep.Light
import Derived.Deep.LoopGhost
import Derived.Deep.QuietTactic
import Derived.Deep.RegionHeld3
import Derived.Deep.RegionLaw
import Derived.IntWalk
import Derived.Laws.BitsAllLaws
import Derived.Lib.MinMax
import Derived.StillTailTactics
import Derived.WalkSpells
import Derived.Lib.Hide
import Derived.Test.YtfkcdnaghndgfaaGreatDoorQAN
import Derived.Lib.FrozenHead
import Derived.Test.YtfkcdnaghndgfaaGreatDoorRows
import Derived.Test.YtfkcdnaghndgfaaGreatDoorQAA
import Derived.Deep.OwnRows
import Derived.Test.YtfkcdnaghndgfaaGreatDoorQAJ
set_option linter.unusedVariables false
set_option linter.unusedSimpArgs false
set_option linter.unusedSectionVars false
namespace Go.Proofs.YtfkcdnaghndgfaaGreatDoor
open Go.RowKit
theorem VB (p:ByteArray):p++({ data := #[47] }:ByteArray)=zd (za p++[47]):=by
 rw [← xD,zu]; rfl
theorem Xo (r:RecD) (w:World) (h:r.Fits):Calls Tryz.prog 45 #[r.v] w fun e w'=>e = .returned (.string (zd (zl r.k r.p)))∧Upd [] w w':=by
 have hp:=h.p
 obtain ⟨p,m,sum,l,wh,k,md,t,pos⟩:=r
 dsimp only at hp
 unfold RecD.v
 dsimp only
 have HA:=Lib.hid (VB p)
 have HB:=Lib.hid (zu p)
 by_cases hk:k=2
 · subst hk
   have HN:Hid (zl 2 p=za p++[47]):=Lib.hid rfl
   go_enter Tryz.func45,Tryz.ntmps45
   go_wp2
   go_ret
   exact ⟨by rw [HN.out,← HA.out]; rfl,(Upd.refl _ _).alloc _⟩
 · have HN:Hid (zl k p=za p):=Lib.hid (if_neg hk)
   have t1:(k==2)=false:=by rw [beq_eq_false_iff_ne]; exact hk
   go_enter Tryz.func45,Tryz.ntmps45
   go_wp2
   go_ret
   exact ⟨by rw [HN.out,HB.out]; rfl,(Upd.refl _ _).alloc _⟩
theorem vK (r:RecD) (w:World) (h:r.Fits):Calls Tryz.prog 9 #[r.v] w fun e w'=>e = .returned (.string (zd (zl r.k r.p)))∧Upd [] w w':=by
 have hp:=h.p
 obtain ⟨p,m,sum,l,wh,k,md,t,pos⟩:=r
 dsimp only at hp
 unfold RecD.v
 dsimp only
 have HA:=Lib.hid (VB p)
 have HB:=Lib.hid (zu p)
 by_cases hk:k=2
 · subst hk
   have HN:Hid (zl 2 p=za p++[47]):=Lib.hid rfl
   go_enter Tryz.func9,Tryz.ntmps9
   go_wp2
   go_ret
   exact ⟨by rw [HN.out,← HA.out]; rfl,(Upd.refl _ _).alloc _⟩
 · have HN:Hid (zl k p=za p):=Lib.hid (if_neg hk)
   have t1:(k==2)=false:=by rw [beq_eq_false_iff_ne]; exact hk
   go_enter Tryz.func9,Tryz.ntmps9
   go_wp2
   go_ret
   exact ⟨by rw [HN.out,HB.out]; rfl,(Upd.refl _ _).alloc _⟩
theorem zeW (n:Int) (w:World):Calls Tryz.prog 86 #[.int .i64 n] w fun e w'=>e = .returned (.bool (yd n))∧w=w':=by
 by_cases h:0≤n
 · have t1:decide (0≤n)=true:=decide_eq_true h
   have HS:Hid (yd n=decide (n<2147483648)):=Lib.hid (by unfold yd; rw [t1]; rfl)
   go_enter Tryz.func86,Tryz.ntmps86
   go_wp2
   go_returns
   exact ⟨by rw [HS.out]; rfl,rfl⟩
 · have t1:decide (0≤n)=false:=decide_eq_false h
   have HS:Hid (yd n=false):=Lib.hid (by unfold yd; rw [t1]; rfl)
   go_enter Tryz.func86,Tryz.ntmps86
   go_wp2
   go_returns
   exact ⟨by rw [HS.out]; rfl,rfl⟩
set_option maxRecDepth 100000 in
set_option maxHeartbeats 4000000 in
theorem zeN (r:RecD) (w:World) (h:r.Fits):Calls Tryz.prog 46 #[r.v] w fun e w'=>e = .returned (.bool (xj r))∧Upd [] w w':=by
 have hp:=h.p
 have hs:=h.sum
 have HL:=Lib.hid (show xj r=if (r.m≠0∧r.m≠8)∨yd r.l=false∨yd r.wh=false∨yd r.pos=false then false
  else if r.k=2 then decide (r.sum=0)&&decide (r.l=0)&&decide (r.wh=0)&&decide (r.m=0) else decide (r.m=8)||decide (r.l=r.wh) from rfl)
 obtain ⟨p,m,sum,l,wh,k,md,t,pos⟩:=r
 dsimp only at hp hs HL
 unfold RecD.v
 dsimp only
 rw [HL.out]
 clear HL
 go_enter Tryz.func46,Tryz.ntmps46
 go_wp2_with (go_at_call 86; refine (zeW _ _).mono ?_; rintro e w2 ⟨rfl,rfl⟩)
 all_goals go_returns
 all_goals (refine ⟨congrArg (fun z=>Ending.returned (.bool z)) ?_,(Upd.refl _ _).alloc _⟩)
 all_goals (simp_all<;>rfl)
set_option maxRecDepth 100000 in
set_option maxHeartbeats 4000000 in
theorem zgH (r:RecD) (w:World) (h:r.Fits):Calls Tryz.prog 47 #[r.v] w fun e w'=>e = .returned (.bool (xq r.k r.t))∧Upd [] w w':=by
 have ht:=h.t
 obtain ⟨p,m,sum,l,wh,k,md,t,pos⟩:=r
 dsimp only at ht
 unfold RecD.v
 dsimp only
 have HT:=Lib.hid (fun w'=>Qj t w' ht)
 by_cases hk:k=2
 · subst hk
   have HN:Hid (xq 2 t=decide (t=2162688)):=Lib.hid rfl
   have t1:((t:Int)==2162688)=decide (t=2162688):=by rw [Bool.eq_iff_iff,beq_iff_eq,decide_eq_true_eq]; omega
   go_enter Tryz.func47,Tryz.ntmps47
   go_wp2
   go_ret
   exact ⟨by rw [HN.out]; rfl,(Upd.refl _ _).alloc _⟩
 · have HN:Hid (xq k t=Jt t):=Lib.hid (if_neg hk)
   have t1:(k==2)=false:=by rw [beq_eq_false_iff_ne]; exact hk
   go_enter Tryz.func47,Tryz.ntmps47
   go_wp2_with fail
   refine (HT.out _).mono ?_
   rintro e w1 ⟨rfl,hU⟩
   go_wp2
   go_ret
   exact ⟨by rw [HN.out]; rfl,((Upd.refl _ _).alloc _).then hU⟩
set_option maxRecDepth 100000 in
set_option maxHeartbeats 4000000 in
theorem VA (r:RecD) (w:World) (h:r.Fits):Calls Tryz.prog 64 #[r.v] w fun e w'=>e = .returned (.bool (xq r.k r.t))∧Upd [] w w':=by
 have ht:=h.t
 obtain ⟨p,m,sum,l,wh,k,md,t,pos⟩:=r
 dsimp only at ht
 unfold RecD.v
 dsimp only
 have HS:=Lib.hid (fun w'=>XL t w' ht)
 have HR:=Lib.hid (fun w'=>XR _ _ _ _ _ _ w' (Yo t))
 have HT:=Lib.hid (show Jt t=jv (1980+(t:Int)/33554432%128) ((t:Int)/2097152%16) ((t:Int)/65536%32) ((t:Int)/2048%32) ((t:Int)/32%64) (2*((t:Int)%32)) from rfl)
 unfold kR at HS
 by_cases hk:k=2
 · subst hk
   have HN:Hid (xq 2 t=decide (t=2162688)):=Lib.hid rfl
   have t1:((t:Int)==2162688)=decide (t=2162688):=by rw [Bool.eq_iff_iff,beq_iff_eq,decide_eq_true_eq]; omega
   go_enter Tryz.func64,Tryz.ntmps64
   go_wp2
   go_ret
   exact ⟨by rw [HN.out]; rfl,(Upd.refl _ _).alloc _⟩
 · have HN:Hid (xq k t=Jt t):=Lib.hid (if_neg hk)
   have t1:(k==2)=false:=by rw [beq_eq_false_iff_ne]; exact hk
   go_enter Tryz.func64,Tryz.ntmps64
   go_wp2_with fail
   refine (HS.out _).mono ?_
   rintro e w1 ⟨rfl,hU⟩
   go_wp2_with fail
   refine (HR.out w1).mono ?_
   rintro e w2 ⟨rfl,hU2⟩
   go_wp2
   go_ret
   exact ⟨by rw [HN.out,HT.out]; rfl,(((Upd.refl _ _).alloc _).then hU).then hU2⟩
theorem Yf (r:RecD) (w:World) (h:r.Fits):Calls Tryz.prog 25 #[r.v] w fun e w'=>e = .returned (.int .i64 (30+(zl r.k r.p).length:Nat))∧Upd [] w w':=by
 have hl:=xp r.k r.p
 have hp:=h.p
 have HNM:=Lib.hid (fun w=>Xo r w h)
 obtain ⟨p,m,sum,l,wh,k,md,t,pos⟩:=r
 dsimp only at hp hl HNM
 unfold RecD.v at *
 dsimp only at HNM ⊢
 have hsz:=zo (zl k p)
 have HSZ:=Lib.hid hsz
 have hb:(zd (zl k p)).size≤1001:=by omega
 generalize zd (zl k p)=S at *
 generalize (zl k p).length=n at *
 clear hsz
 go_enter Tryz.func25,Tryz.ntmps25
 go_wp2_with fail
 refine (HNM.out _).mono ?_
 rintro e w1 ⟨rfl,hU⟩
 go_wp2
 go_ret
 exact ⟨by rw [← HSZ.out]; show Ending.returned (.int .i64 (30+(S.size:Int)))=_; simp,((Upd.refl _ _).alloc _).then hU⟩
end Go.Proofs.YtfkcdnaghndgfaaGreatDoor
namespace Go.Proofs.YtfkcdnaghndgfaaGreatDoor
open Go.RowKit
theorem vu (a:List Nat) (p:ByteArray) (ha : ∀ x∈a,x<256):((zd a).toList=p.toList)=(a=za p):=by
 refine propext ⟨fun h=>?_,fun h=>by rw [h,zu]⟩
 rw [ByteArray.toList_eq,ByteArray.toList_eq] at h
 have:zd a=p:=ByteArray.ext (Array.ext' h)
 rw [← this,zx a ha]
set_option maxRecDepth 100000 in
set_option maxHeartbeats 4000000 in
theorem Yi (r:RecD) (w:World) (h:r.Fits):Calls Tryz.prog 21 #[r.v] w fun e w'=>e = .returned (.int .i64 (yt r:Nat))∧Upd [] w w':=by
 have hp:=h.p
 have hsz:(zd (zl r.k r.p)).size≤1000000:=by have:=xp r.k r.p; rw [zo]; omega
 have HN:=Lib.hid (fun w=>Xo r w h)
 have HP:=Lib.hid (fun w=>zhq (zd (zl r.k r.p)) w hsz)
 rw [zx _ (qf r.k r.p)] at HP
 have HL:=Lib.hid (fun w=>zeN r w h)
 have HT:=Lib.hid (fun w=>zgH r w h)
 have HE:Hid (yt r=if xM r=false then 5 else if xj r=false then 2 else if r.md<0∨511<r.md then 12 else if xq r.k r.t=false then 13 else 0):=Lib.hid rfl
 have HB:Hid (xM r=((zS (zl r.k r.p)).2.2&&decide ((zS (zl r.k r.p)).1=za r.p)&&decide (((zS (zl r.k r.p)).2.1:Int)=r.k))):=Lib.hid rfl
 have HA:Hid (∀ x∈(zS (zl r.k r.p)).1,x<256):=Lib.hid (ZZ (qf r.k r.p))
 generalize yt r=E at *
 generalize xq r.k r.t=tb at *
 generalize xj r=lb at *
 generalize xM r=nb at *
 generalize zS (zl r.k r.p)=pp at *
 generalize zd (zl r.k r.p)=S at *
 clear hsz
 obtain ⟨a,kk,okb⟩:=pp
 unfold Yz at HP
 dsimp only at HP HB HA
 obtain ⟨p,m,sum,l,wh,k,md,t,pos⟩:=r
 unfold RecD.v at *
 dsimp only at *
 have HQ:=Lib.hid (vu a p HA.out)
 clear HA
 go_enter Tryz.func21,Tryz.ntmps21
 go_wp2_with fail
 refine (HN.out _).mono ?_
 rintro e w1 ⟨rfl,hU1⟩
 go_wp2_with fail
 refine (HP.out _).mono ?_
 rintro e w2 ⟨rfl,hU2⟩
 have hU:Upd [] w w2:=(((Upd.refl [] w).alloc _).then hU1).then hU2
 have hB:=((Blk.new w [.string p,.int .i64 m,.int .u32 (sum:Nat),.int .i64 l,.int .i64 wh,.int .i64 k,.int .i64 md,.int .u32 (t:Nat),.int .i64 pos] 26).upd hU1 (by simp)).upd hU2 (by simp)
 have hlt:=hB.lt
 generalize w.heap.size=b0 at *
 have cA:=hB.all
 have HBB:=Lib.hid hB
 have HU:=Lib.hid hU
 clear hB hU hU1 hU2
 go_wp2_with fail
 any_goals (go_ret; refine ⟨?_,HU.out⟩; have hnb:nb=false:=(by
  rw [HB.out]
  first
   | (have h1 := ‹¬ (okb=true)›; simp [h1]; done)
   | (have h2 := ‹¬ ((zd a).toList=p.toList)›; rw [HQ.out] at h2; simp [h2]; done)
   | (have h3 := ‹((kk:Int) != k)=true›; have h4 : ¬ ((kk:Int)=k):=(by simpa using h3); simp [h4]; done)); rw [HE.out,hnb]; rfl)
 have hnb:nb=true:=by
  have h2 := ‹(zd a).toList=p.toList›
  have h1 := ‹okb=true›
  have h3 := ‹((kk:Int) != k)=false›
  rw [HQ.out] at h2
  have h4:(kk:Int)=k:=by simpa using h3
  rw [HB.out]
  simp [h1,h2,h4]
 cases lb with
 | false =>
   refine (HL.out _).mono ?_
   rintro e w3 ⟨rfl,hU3⟩
   have HF:=Lib.hid (HU.out.then hU3)
   clear hU3
   go_wp2
   go_ret
   exact ⟨by rw [HE.out,hnb]; rfl,HF.out⟩
 | true =>
   refine (HL.out _).mono ?_
   rintro e w3 ⟨rfl,hU3⟩
   have hB3:=HBB.out.upd hU3 (by simp)
   have dA:=hB3.all
   have HF:=Lib.hid (HU.out.then hU3)
   clear hU3 hB3 cA
   by_cases hm:md<0∨511<md
   · have HX:Hid (E=12):=Lib.hid (by rw [HE.out,hnb,if_neg (by simp),if_neg (by simp),if_pos hm])
     clear HE
     rcases hm with hm | hm
     · go_wp2_with fail
       go_ret
       exact ⟨by rw [HX.out]; rfl,HF.out⟩
     · have hm0 : ¬ md<0:=by omega
       go_wp2_with fail
       go_ret
       exact ⟨by rw [HX.out]; rfl,HF.out⟩
   · have HX:Hid (E=if tb=false then 13 else 0):=Lib.hid (by rw [HE.out,hnb,if_neg (by simp),if_neg (by simp),if_neg hm])
     have hm0 : ¬ md<0:=by omega
     have hm1 : ¬ 511<md:=by omega
     clear HE hm
     go_wp2_with fail
     refine (HT.out _).mono ?_
     rintro e w4 ⟨rfl,hU4⟩
     have HG:=Lib.hid (HF.out.then hU4)
     clear hU4 dA
     cases tb with
     | false =>
       go_wp2
       go_ret
       exact ⟨by rw [HX.out]; rfl,HG.out⟩
     | true =>
       go_wp2
       go_ret
       exact ⟨by rw [HX.out]; rfl,HG.out⟩
end Go.Proofs.YtfkcdnaghndgfaaGreatDoor
namespace Go.Proofs.YtfkcdnaghndgfaaGreatDoor
open Go.RowKit
theorem zim:(Tryz.prog.info? 5).map (fun i=>(i.zero,i.size,i.bytes))=some (some (.int .u8 0),1,1):=by kernel_rfl
theorem zdc:(Tryz.prog.info? 77).map (·.size)=some 2:=by kernel_rfl
theorem zhf:Tryz.prog.cellsOf 5=1:=by kernel_rfl
def Kh (T:TypeId):Prop:=liesAt Tryz.prog Tryz.prog.depth T (2/Tryz.prog.cellsOf T) 0 77 1=true∧T≠5
def Bld (T:TypeId) (B b:Nat) (l:List Nat) (w:World):Prop:=Lib.IsBuilderF T 5 B b (u8s l) w
theorem Bld.fresh (T:TypeId) (w:World):Bld T w.heap.size w.heap.size [] (w.alloc (.cells #[.pointer none,.slice none 0 0] T)) := .of (Lib.fresh_isBuilder T _ w)
theorem Bld.drew {T:TypeId} {B b:Nat} {l:List Nat} {w:World} (h:Bld T B b l w):Bld T B b l w.drew:=h
theorem Bld.lt {T:TypeId} {B b:Nat} {l:List Nat} {w:World} (h:Bld T B b l w):b<w.heap.size:=h.elim (fun x=>x.lt) (fun x=>x.lt)
theorem zgp {T:TypeId} {B b:Nat} {p:Value} {bs:List Value} {w w':World} (h:Lib.BuilderAtF T 5 B b p bs w) (hu:Upd [] w w'):Lib.BuilderAtF T 5 B b p bs w':=by
 have hlt:=h.lt
 obtain ⟨hB,v,hbk,hown,hne⟩:=h
 refine ⟨hB,v,(hu.block b hlt (by simp)).trans hbk,⟨hown.1,?_⟩,hne⟩
 rcases hown.2 with ⟨hv,hz⟩ | ⟨g,cap,cur,fz,hv,hBg,hg,r⟩
 · exact .inl ⟨hv,hz⟩
 · exact .inr ⟨g,cap,cur,fz,hv,hBg,(hu.block g (Array.getElem?_eq_some_iff.1 hg).1 (by simp)).trans hg,r⟩
theorem Bld.upd {T:TypeId} {B b:Nat} {l:List Nat} {w w':World} (h:Bld T B b l w) (hu:Upd [] w w'):Bld T B b l w':=h.elim (fun x => .inl (zgp x hu)) (fun x => .inr (zgp x hu))
def Kept (b:Nat) (w w':World):Prop := ∀ k cs T,k≠b→T≠5→Blk w k cs T→Blk w' k cs T
theorem Kept.refl (b:Nat) (w:World):Kept b w w:=fun _ _ _ _ _ h=>h
theorem Kept.trans {b:Nat} {u v w:World} (h:Kept b u v) (k:Kept b v w):Kept b u w:=fun j cs T h1 h2 h3=>k j cs T h1 h2 (h j cs T h1 h2 h3)
theorem Upd.kept {b:Nat} {w w':World} (h:Upd [] w w'):Kept b w w':=fun j cs T h1 h2 h3=>h3.upd h (by simp)
theorem zaG {b o:Nat} {w:World} (v:Value):Kept b w (w.setCell ⟨b,o,none⟩ v):=fun j cs T h1 h2 h3=>h3.setFar v h1
set_option maxRecDepth 100000 in
theorem Yq {T:TypeId} (hT:Kh T) (b:Nat) (w:World) (h0:w.cell? ⟨b,0,none⟩=some (.pointer none)) (hsh:w.shape? b=some (T,2)) (hfz:w.frozen? ⟨b,0,none⟩=false) :
 Calls Tryz.prog 135 #[.pointer (some ⟨b,0,none⟩)] w fun e w'=>e = .returned (.tuple #[])∧w'=w.setCell ⟨b,0,none⟩ (.pointer (some ⟨b,0,none⟩)):=by
 obtain ⟨j,hj,hjs⟩:=Option.map_eq_some_iff.1 zdc
 go_enter Tryz.func135,Tryz.ntmps135
 go_wp2
 rw [Lib.run_to_unsafe w ⟨b,0,none⟩ Tryz.underlying74 Tryz.underlying221 hj (by rw [hjs]; decide) hsh (Nat.zero_lt_succ 1)]
 simp only [Result.andThen]
 rw [Oper.upon_value]
 go_wp2
 rw [run_callFunc_extern Tryz.func171 (by kernel_rfl) (by kernel_rfl) (by kernel_rfl) (e:=Extern.AbiNoEscape.same) (by kernel_rfl)]
 rw [Lib.run_noEscape]
 simp only [Result.andThen]
 rw [Oper.upon_value]
 go_wp2
 rw [Lib.run_from_unsafe w ⟨b,0,none⟩ Tryz.underlying221 Tryz.underlying74 hj hsh hT.1]
 simp only [Result.andThen]
 rw [Oper.upon_value]
 go_wp2
 go_end0
 exact ⟨rfl,rfl⟩
set_option maxRecDepth 100000 in
theorem Yr {T:TypeId} (hT:Kh T) (B b:Nat) (l:List Nat) (w:World) (h:Bld T B b l w) :
 Calls Tryz.prog 135 #[.pointer (some ⟨b,0,none⟩)] w fun e w'=>e = .returned (.tuple #[])∧Lib.BuilderAtF T 5 B b (.pointer (some ⟨b,0,none⟩)) (u8s l) w'∧Below B w w'∧Kept b w w':=by
 rcases h with h | h
 · refine (Yq hT b w h.cell0 h.shape h.frozen0).mono ?_
   rintro e w' ⟨rfl,rfl⟩
   exact ⟨rfl,h.used _,(Below.refl _ _).setCell (p:=⟨b,0,none⟩) h.1 _,zaG _⟩
 · obtain ⟨j,hj,hjs⟩:=Option.map_eq_some_iff.1 zdc
   have h0:=h.cell0
   have hF:=Lib.hid h
   have hNE:=fun w=>Lib.run_neq_ptr_same (P:=Tryz.prog) w (tp:=74) (te:=77) ⟨b,0,none⟩ Tryz.underlying74 hj
   clear h
   go_enter Tryz.func135,Tryz.ntmps135
   go_wp2
   go_end0
   exact ⟨rfl,hF.out,Below.refl _ _,Kept.refl _ _⟩
theorem zgy {B:Nat} {w:World} {v:Value} {n:Nat} {xs:List Value} (h:w.ownsRowF B 5 1 v n xs) {k:Nat} {cs:List Value} {T:TypeId} (hk:Blk w k cs T) (hT:T≠5):v.ownBlock≠some k:=Lib.ownBlock_neF h hk hT
set_option maxRecDepth 100000 in
theorem QK {T:TypeId} (hT:Kh T) (B b:Nat) (l:List Nat) (s:ByteArray) (w:World) (h:Bld T B b l w) (hlen:l.length+s.size≤1000000000) (hBw:B≤w.heap.size) :
 Calls Tryz.prog 88 #[.pointer (some ⟨b,0,none⟩),.string s] w fun e w'=>e = .returned (.tuple #[.int .i64 s.size,.nilIface])∧Bld T B b (l++za s) w'∧Below B w w'∧Kept b w w':=by
 obtain ⟨i0,hi,hz0,hz1,hz2⟩:=info_parts zim
 have HC:=Lib.hid (Yr hT B b l w h)
 clear h
 go_enter Tryz.func88,Tryz.ntmps88
 go_wp2_with fail
 refine HC.out.mono ?_
 rintro e w1 ⟨rfl,h1,hb1,hk1⟩
 obtain ⟨hB,v,hbk,hown,hne⟩:=h1
 have hlt:b<w1.heap.size:=Lib.BuilderAtF.lt ⟨hB,v,hbk,hown,hne⟩
 have c0:w1.cell? ⟨b,0,none⟩=some (.pointer (some ⟨b,0,none⟩)):=by rw [Lib.cell_of_heap hbk]; rfl
 have c1:w1.cell? ⟨b,1,none⟩=some v:=by rw [Lib.cell_of_heap hbk]; rfl
 have HBK:=Lib.hid hbk
 have hul:(u8s l).length=l.length:=jI l
 clear hbk
 go_wp2_with (at_builtin; refine Lib.wpList_append_own_stringF _ rfl _ _ 75 9 rfl B 5 i0 Tryz.underlying75 Tryz.underlying9 hi hz0 hz1 hz2 _ _ _ rfl hown s rfl ?c3 ?c4 ?c5 ?_)
 case c3=>unfold maxLen; omega
 case c4=>omega
 case c5=>have:=hb1.size; omega
 intro v' w2 hown' hgrow _
 have hb2:w2.heap[b]? =some (.cells #[.pointer (some ⟨b,0,none⟩),v] T (0,0)):=by
  rw [hgrow.block b hlt (fun e=>hne e.symm)]
  exact HBK.out
 have d1:w2.cell? ⟨b,1,none⟩=some v:=by rw [Lib.cell_of_heap hb2]; rfl
 have f1:w2.frozen? ⟨b,1,none⟩=false:=Lib.frozen_of_heap hb2 1
 obtain ⟨ao,n',cap,rfl⟩ : ∃ ao n' cap,v' = .slice ao n' cap:=by
  rcases hown'.2 with ⟨hv,_⟩ | ⟨g,cap,cur,fz,hv,_⟩
  · exact ⟨_,_,_,hv⟩
  · exact ⟨_,_,_,hv⟩
 have HFIN:Hid (Bld T B b (l++za s) (w2.setCell ⟨b,1,none⟩ (.slice ao n' cap))∧Below B w (w2.setCell ⟨b,1,none⟩ (.slice ao n' cap))∧Kept b w (w2.setCell ⟨b,1,none⟩ (.slice ao n' cap))):=Lib.hid ⟨.inr (by
  rw [Zh] at hown'
  have e:u8s l++u8s (za s)=u8s (l++za s):=(vl _ _).symm
  rw [e] at hown'
  exact Lib.BuilderAtF.put (T:=T) (e:=5) hB hb2 (bs':=u8s (l++za s)) (by
   have e2:(u8s (l++za s)).length=l.length+s.size:=by rw [jI,List.length_append,zc]
   rw [e2]; exact hown') hT.2),(hb1.grown hgrow (by have:=hb1.size; omega) (fun k hk=>(hown.lt k hk).1)).setCell (p:=⟨b,1,none⟩) hB _,
   (hk1.trans (fun j cs T' h1 h2 h3=>h3.grown hgrow (zgy hown h3 h2))).trans (zaG _)⟩
 clear hown' hgrow hb2 hown hb1 hk1
 go_wp2
 go_ret2
 exact ⟨rfl,HFIN.out⟩
theorem strOf_eq' (l:List Nat) (h : ∀ x∈l,x<256):u8s l=Lib.byteCells (l.map UInt8.ofNat):=by
 unfold u8s Lib.byteCells
 rw [List.map_map]
 refine List.map_congr_left fun x hx=>?_
 have:=h x hx
 simp only [Function.comp,UInt8.toNat_ofNat']
 rw [Nat.mod_eq_of_lt (by omega)]
set_option maxRecDepth 100000 in
theorem KS {T:TypeId} (B b:Nat) (l:List Nat) (w:World) (h:Bld T B b l w) (h0:l≠[]) (hb : ∀ x∈l,x<256) :
 Calls Tryz.prog 89 #[.pointer (some ⟨b,0,none⟩)] w fun e w'=>e = .returned (.string (zd l))∧Bld T B b l w'∧Below B w w'∧Kept b w w':=by
 obtain ⟨p,hp,hAt⟩ : ∃ p,(p = .pointer none∨p = .pointer (some ⟨b,0,none⟩))∧Lib.BuilderAtF T 5 B b p (u8s l) w:=by
  rcases h with h | h
  · exact ⟨_,.inl rfl,h⟩
  · exact ⟨_,.inr rfl,h⟩
 have HA:=Lib.hid hAt
 obtain ⟨hB,v,hbk,hown,hne⟩:=hAt
 have hl0:l.length≠0:=by simpa using h0
 have hlu:=jI l
 rw [hlu] at hown
 obtain ⟨g,cap,cur,fz,rfl,hbg,hg,hfz,hnc,hcm,hcs,htake⟩ : ∃ g cap cur fz,v = .slice (some ⟨g,0,none⟩) l.length cap∧B≤g∧w.heap[g]? =some (.cells cur 5 fz)∧fz.2≤l.length*1∧l.length≤cap∧cap≤maxLen∧cur.size=cap*1∧cur.toList.take (l.length*1)=u8s l:=by
  rcases hown.2 with ⟨_,hz⟩ | ⟨g,cap,cur,fz,hv,r⟩
  · exact absurd hz hl0
  · exact ⟨g,cap,cur,fz,hv,r⟩
 have c1:w.drew.cell? ⟨b,1,none⟩=some (.slice (some ⟨g,0,none⟩) l.length cap):=by
  have:w.drew.heap[b]? =some (.cells #[p,.slice (some ⟨g,0,none⟩) l.length cap] T (0,0)):=hbk
  rw [Lib.cell_of_heap this]; rfl
 have hSD:(Builtin.unsafeSliceData_ #[75] 192 #[.slice (some ⟨g,0,none⟩) l.length cap]).run Tryz.prog w.drew = .ok (.pointer (some ⟨g,0,none⟩)) w.drew :=
  Lib.run_unsafeSliceData_row _ _ _ _ _ _ (by omega)
 have hml:(l.map UInt8.ofNat).length=l.length:=by simp
 have hUS:(Builtin.unsafeString_ #[192,3] 9 #[.pointer (some ⟨g,0,none⟩),.int .i64 l.length]).run Tryz.prog w.drew = .ok (.string (zd l)) (w.drew.freeze ⟨g,0,none⟩ l.length):=by
  have:=Lib.run_unsafeString_row (P:=Tryz.prog) w.drew 192 3 9 5 Tryz.underlying192 zhf g cur.size (by have hg':w.drew.heap[g]? =some (.cells cur 5 fz):=hg; simp [World.shape?,hg']) (l.map UInt8.ofNat) (by simpa using h0) (by rw [hml]; omega) (by rw [hml]; unfold maxLen at hcm; omega) (by
   intro j x hx
   have:=hown.cells (g:=g) rfl j (.int .u8 x.toNat) (by
    rw [strOf_eq' l hb]; unfold Lib.byteCells; rw [List.getElem?_map,hx]; rfl)
   exact this)
  rw [hml] at this
  exact this
 clear hml
 have HFIN:Hid (Bld T B b l (w.drew.freeze ⟨g,0,none⟩ l.length)∧Below B w (w.drew.freeze ⟨g,0,none⟩ l.length)∧Kept b w (w.drew.freeze ⟨g,0,none⟩ l.length)):=Lib.hid ⟨by
  have hF:=(show Lib.BuilderAtF T 5 B b p (u8s l) w.drew from HA.out).froze (g:=g) (cap:=cap) (by rw [hlu]; exact c1)
  rw [hlu] at hF
  rcases hp with rfl | rfl
  · exact .inl hF
  · exact .inr hF,Lib.below_freeze (Below.drew (Below.refl B w)) (p:=⟨g,0,none⟩) hbg _,fun k cs T' h1 h2 h3=>by
  have hk:k≠g:=by
   rintro rfl
   unfold Blk at h3
   rw [hg] at h3
   simp only [Option.some.injEq,Obj.cells.injEq] at h3
   exact h2 h3.2.1.symm
  unfold Blk World.freeze
  split
  · exact h3
  · simp only [Array.getElem?_modify]
    rw [if_neg (Ne.symm hk)]
    exact h3⟩
 have HTK:=Lib.hid htake
 clear htake hown hg hbk hne h HA
 go_enter Tryz.func89,Tryz.ntmps89
 go_wp2
 go_region
 all_goals (go_wp2; go_ret; exact ⟨rfl,HFIN.out⟩)
theorem WM {T:TypeId} (B b:Nat) (l:List Nat) (w:World) (h:Bld T B b l w) (h0:l≠[]) (hb : ∀ x∈l,x<256) :
 Calls Tryz.prog 89 #[.pointer (some ⟨b,0,none⟩)] w fun e w'=>e = .returned (.string (zd l))∧Below B w w' :=
 (KS B b l w h h0 hb).mono fun _ _ h=>⟨h.1,h.2.2.1⟩
end Go.Proofs.YtfkcdnaghndgfaaGreatDoor
namespace Go.Proofs.YtfkcdnaghndgfaaGreatDoor
open Go.RowKit
theorem zfz:(Tryz.prog.info? 5).map (fun i=>(i.zero,i.size,i.bytes))=some (some (.int .u8 0),1,1):=by kernel_rfl
theorem Blk.conv {P:Program} {w:World} {b n c:Nat} {l:List Nat} {src dst e:TypeId} (h:Blk w b (u8s l) e) (hl:l.length=n) (hs:P.underlying src=some (.slice e)) (he:P.underlying e=some (.int .u8)) (hd:P.underlying dst=some .string) :
 (convert src dst (.slice (some ⟨b,0,none⟩) n c)).run P w = .ok (.string (zd l)) w:=by
 have hr:=run_convert_bytes_arg w src e hs he b 0 n c (l.map fun x:Nat=>(x:Int)) (by simpa using hl) (fun i hi=>by
  have hil:i<l.length:=by omega
  rw [Nat.zero_add]
  refine h.cell i ?_
  simp [u8s,hil]) dst hd
 rw [hr]
 congr 2
 simp only [strOfNums,zd,List.map_map]
 congr 2
theorem zjB (i:Nat):(2:Nat)^(8*i)=256^i:=by rw [Nat.pow_mul]
theorem zhk (l:List Nat) (i x:Nat):(u8s l).set i (.int .u8 (x:Nat))=u8s (l.set i x):=by simp [u8s]
theorem zdx (n k i:Nat) (h:i<k):((leP n i++List.replicate (k-i) 0).set i (n/256^i%256))=leP n (i+1)++List.replicate (k-(i+1)) 0:=by
 rw [show k-i=(k-(i+1))+1 by omega,List.replicate_succ,List.set_append_right _ _ (by rw [zR]; omega),zR,Nat.sub_self,List.set_cons_zero,WA,List.append_assoc]; rfl
set_option maxRecDepth 100000 in
set_option maxHeartbeats 1600000 in
theorem zhO (n k:Nat) (w:World) (hn:n<18446744073709551616) (hk:k≤8):Calls Tryz.prog 87 #[.int .u64 (n:Nat),.int .i64 (k:Nat)] w fun e w'=>e = .returned (.string (zd (leP n k)))∧Upd [] w w':=by
 have hmk:=fun w=>run_make_row' (P:=Tryz.prog) 75 5 (.int .u8 0) 1 Tryz.underlying75 zfz rfl .i64 .i64 k (by omega) (by omega) (w:=w)
 have hmx:max (0:Int) (min (k:Int) 8)=(k:Int):=by omega
 rw [← hmx] at hmk
 have hk8:(k:Int)≤8:=by omega
 have hk0:(0:Int)≤(k:Int):=by omega
 have HX:=Lib.hid hmx
 clear hmx
 go_enter Tryz.func87,Tryz.ntmps87
 go_wp2
 have hB0:Blk (w.alloc (.cells (madeCells #[.int .u8 0] k) 5)) w.heap.size (u8s (leP n 0++List.replicate (k-0) 0)) 5:=by
  have:=heap_alloc_new w (.cells (madeCells #[.int .u8 0] k) 5)
  unfold Blk
  rw [this]
  congr 2
  apply Array.ext
  · simp [madeCells,u8s,leP]
  · intro j h1 h2
    simp [madeCells,u8s,leP,Nat.mod_one]
 have hU0:Upd [] w (w.alloc (.cells (madeCells #[.int .u8 0] k) 5)):=(Upd.refl [] w).alloc _
 generalize w.alloc (.cells (madeCells #[.int .u8 0] k) 5)=w0 at *
 obtain ⟨b0,hb0⟩ : ∃ b0,w.heap.size=b0:=⟨_,rfl⟩
 rw [hb0] at hB0 ⊢
 have HB:=Lib.hid (show w.heap.size≤b0 by omega)
 clear hb0 hmk
 go_loopg [13] k (fun g s13 wr => ∃ i,i≤k∧g=k-i∧s13 = .int .i64 (i:Nat)∧Blk wr b0 (u8s (leP n i++List.replicate (k-i) 0)) 5∧Upd [] w wr)
 case atStart=>exact ⟨0,by omega,rfl,rfl,hB0,hU0⟩
 case round =>
  obtain ⟨i,hi,rfl,rfl,hB,hU⟩:=hrel
  clear hB0 hU0
  by_cases hc9:i<k
  · have hcz:(i:Int)<(k:Int):=by omega
    have HST:=Lib.hid (zdx n k i hc9)
    have hlen:(leP n i++List.replicate (k-i) 0).length=k:=by rw [List.length_append,zR,List.length_replicate]; omega
    obtain ⟨q,hq⟩ : ∃ q,q=n/256^i%256:=⟨_,rfl⟩
    rw [← hq] at HST
    have hdv:(n:Int)/2^(8*i)%256=(q:Int):=by rw [hq,← zjB]; simp
    clear hq
    generalize leP n i++List.replicate (k-i) 0=L at *
    have c1:=hB.cell i (v := .int .u8 ((L[i]'(by omega):Nat):Int)) (by rw [u8s]; simp [hlen,hc9])
    have f1:=hB.frz i
    generalize L[i]'(by omega)=old at *
    have HLN:=Lib.hid hlen
    clear hlen
    go_wp2
    go_roundg (k-(i+1))
    · exact ⟨i+1,by omega,rfl,by first | rfl | go_num,by rw [← HST.out,← zhk]; exact hB.set i _,hU.setCell (.inr HB.out) _⟩
    · omega
  · have hcz : ¬ (i:Int)<(k:Int):=by omega
    have h9:i=k:=by omega
    subst h9
    rw [Nat.sub_self,List.replicate_zero,List.append_nil] at hB
    have hcv2:=hB.conv (P:=Tryz.prog) (c:=i) (zR i n) Tryz.underlying75 Tryz.underlying5 Tryz.underlying9
    go_wp2
    go_ret
    exact ⟨rfl,hU⟩
def zgT (s:ByteArray) (k:Nat):Value:=if k≤s.size then .tuple #[.int .u64 (leG ((za s).take k):Nat),.bool true] else .tuple #[.int .u64 0,.bool false]
set_option maxRecDepth 100000 in
set_option maxHeartbeats 1600000 in
theorem zhb (s:ByteArray) (k:Nat) (w:World) (hs:s.size≤1000000) (hk:k≤8):Calls Tryz.prog 100 #[.string s,.int .i64 (k:Nat)] w fun e w'=>e = .returned (zgT s k)∧Upd [] w w':=by
 have hk8:(k:Int)≤8:=by omega
 have hk0:(0:Int)≤(k:Int):=by omega
 by_cases hc:k≤s.size
 · have HV:Hid (zgT s k = .tuple #[.int .u64 (leG ((za s).take k):Nat),.bool true]):=Lib.hid (if_pos hc)
   have hcz:(k:Int)≤(s.size:Int):=by omega
   go_enter Tryz.func100,Tryz.ntmps100
   go_wp2
   go_loopg [6,7] (0+k) (fun g s6 s7 wr => ∃ i m,i≤k∧g=0+i∧s7 = .int .i64 ((i:Nat)-1)∧s6 = .int .u64 (m:Nat)∧m<256^(k-i)∧Hid (m=leG (((za s).take k).drop i))∧Upd [] w wr)
   case atStart=>exact ⟨k,0,by omega,rfl,rfl,rfl,by simp,Lib.hid (by rw [List.drop_of_length_le (by rw [List.length_take]; omega)]; rfl),Upd.refl _ _⟩
   case round =>
    obtain ⟨i,m,hi,rfl,rfl,rfl,hm,HM,hU⟩:=hrel
    by_cases hc9:0<i
    · have hcz2:(0:Int)≤(i:Int)-1:=by omega
      obtain ⟨j,rfl⟩ : ∃ j,i=j+1:=⟨i-1,by omega⟩
      have hcs:j<s.size:=by omega
      have hbl:s[j].toNat<256:=s[j].toNat_lt
      have h7:256^(k-(j+1))≤256^7:=Nat.pow_le_pow_right (by omega) (by omega)
      have HW:Hid (IntKind.u64.wrap (IntKind.u64.wrap (256*(m:Int))+(s[j].toNat:Int))=((s[j].toNat+256*m:Nat):Int)):=Lib.hid (by
       rw [show IntKind.u64.wrap (256*(m:Int))=256*(m:Int) from IntWalk.u64_in _ (by omega),IntWalk.u64_in _ (by omega)]; omega)
      have HN:Hid (s[j].toNat+256*m<256^(k-j)):=Lib.hid (by
       rw [show k-j=(k-(j+1))+1 by omega,Nat.pow_succ]; omega)
      have HG:Hid (s[j].toNat+256*m=leG (((za s).take k).drop j)):=Lib.hid (by
       have hl:j<((za s).take k).length:=by rw [List.length_take,zc]; omega
       rw [List.drop_eq_getElem_cons hl,leG,← HM.out,List.getElem_take,zM s j hcs])
      clear HM hm h7
      go_wp2
      go_roundg (0+j)
      · exact ⟨j,s[j].toNat+256*m,by omega,rfl,by first | rfl | go_num,by rw [HW.out],HN.out,HG,hU⟩
      · omega
    · have hcz2 : ¬ (0:Int)≤(i:Int)-1:=by omega
      have h9:i=0:=by omega
      subst h9
      go_wp2
      go_ret2
      exact ⟨by rw [HV.out,HM.out]; rfl,hU⟩
 · have HV:Hid (zgT s k = .tuple #[.int .u64 0,.bool false]):=Lib.hid (if_neg hc)
   go_enter Tryz.func100,Tryz.ntmps100
   go_wp2
   go_ret2
   exact ⟨by rw [HV.out]; rfl,Upd.refl _ _⟩
end Go.Proofs.YtfkcdnaghndgfaaGreatDoor
namespace Go.Proofs.YtfkcdnaghndgfaaGreatDoor
open Go.RowKit
theorem zjF:Kh 79:=⟨by kernel_rfl,by decide⟩
abbrev Wr (B b:Nat) (l:List Nat) (w:World):Prop:=Bld 79 B b l w
theorem Upd.belowB {B:Nat} {w w':World} (h:Upd [] w w') (hB:B≤w.heap.size):Below B w w':=h.below' hB (by simp)
set_option maxRecDepth 100000 in
theorem Xb (B b g:Nat) (l:List Nat) (s:ByteArray) (w:World) (h:Wr B b l w) (hg:w.cell? ⟨g,0,none⟩=some (.string s)) (hlen:l.length+s.size≤1000000000) (hBw:B≤w.heap.size) :
 Calls Tryz.prog 51 #[.pointer (some ⟨b,0,none⟩),.slice (some ⟨g,0,none⟩) 1 1] w fun e w'=>e = .returned (.pointer (some ⟨b,0,none⟩))∧Wr B b (l++za s) w'∧Below B w w'∧Kept b w w':=by
 have HW:=Lib.hid (QK zjF B b l s w h hlen hBw)
 clear h
 go_enter Tryz.func51,Tryz.ntmps51
 go_wp2
 go_loopg [11] 1 (fun gg s11 wr => ∃ i,gg=1-i∧s11 = .int .i64 (i:Nat)∧((i=0∧wr=w)∨(i=1∧Hid (Wr B b (l++za s) wr∧Below B w wr∧Kept b w wr))))
 case atStart=>exact ⟨0,rfl,rfl,.inl ⟨rfl,rfl⟩⟩
 case round =>
  obtain ⟨i,rfl,rfl,⟨rfl,rfl⟩ | ⟨rfl,HF⟩⟩:=hrel
  · go_wp2_with fail
    refine HW.out.mono ?_
    rintro e w1 ⟨rfl,hF⟩
    go_wp2
    go_roundg (1-1)
    · exact ⟨1,rfl,rfl,.inr ⟨rfl,Lib.hid hF⟩⟩
    · omega
  · go_wp2
    go_ret
    exact ⟨rfl,HF.out⟩
set_option maxRecDepth 100000 in
theorem zeD (B b n k:Nat) (l:List Nat) (w:World) (h:Wr B b l w) (hn:n<18446744073709551616) (hk:k≤8) (hlen:l.length≤100000000) (hBw:B≤w.heap.size) :
 Calls Tryz.prog 49 #[.pointer (some ⟨b,0,none⟩),.int .u64 (n:Nat),.int .i64 (k:Nat)] w fun e w'=>e = .returned (.pointer (some ⟨b,0,none⟩))∧Wr B b (l++leP n k) w'∧Below B w w'∧Kept b w w':=by
 have HP:=Lib.hid (zhO n k w hn hk)
 go_enter Tryz.func49,Tryz.ntmps49
 go_wp2_with fail
 refine HP.out.mono ?_
 rintro e w1 ⟨rfl,hU⟩
 go_wp2_with fail
 have hU2:=hU.alloc (.cells #[.string (zd (leP n k))] 9)
 have hsz:(zd (leP n k)).size=k:=by rw [zo,zR]
 have hb:za (zd (leP n k))=leP n k:=zx _ (zbM k n)
 refine (Xb B b w1.heap.size l _ _ (h.upd hU2) ((Blk.new w1 [.string (zd (leP n k))] 9).cell 0 rfl) (by rw [hsz]; omega) (by have:=hU2.size; omega)).mono ?_
 rintro e w2 ⟨rfl,hW,hL,hK⟩
 rw [hb] at hW
 go_wp2
 go_ret
 exact ⟨rfl,hW,(hU2.belowB hBw).trans hL,hU2.kept.trans hK⟩
theorem zeU (B b g:Nat) (l:List Nat) (s:ByteArray) (w:World) (h:Wr B b l w) (hg:w.cell? ⟨g,0,none⟩=some (.string s)) (hlen:l.length+s.size≤1000000000) (hBw:B≤w.heap.size) :
 Calls Tryz.prog 51 #[.pointer (some ⟨b,0,none⟩),.slice (some ⟨g,0,none⟩) 1 1] w fun e w'=>e = .returned (.pointer (some ⟨b,0,none⟩))∧Wr B b (l++za s) w'∧Below B w w' :=
 (Xb B b g l s w h hg hlen hBw).mono fun _ _ h=>⟨h.1,h.2.1,h.2.2.1⟩
theorem zaB (B b n k:Nat) (l:List Nat) (w:World) (h:Wr B b l w) (hn:n<18446744073709551616) (hk:k≤8) (hlen:l.length≤100000000) (hBw:B≤w.heap.size) :
 Calls Tryz.prog 49 #[.pointer (some ⟨b,0,none⟩),.int .u64 (n:Nat),.int .i64 (k:Nat)] w fun e w'=>e = .returned (.pointer (some ⟨b,0,none⟩))∧Wr B b (l++leP n k) w'∧Below B w w' :=
 (zeD B b n k l w h hn hk hlen hBw).mono fun _ _ h=>⟨h.1,h.2.1,h.2.2.1⟩
end Go.Proofs.YtfkcdnaghndgfaaGreatDoor
