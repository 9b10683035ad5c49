/- Package inflate: Of: plain, and its walk. -/
import Derived.Lib.MinMax
import Derived.Test.YtfkcdnaghndgfaaGreatDoorQAL
import Derived.WalkKit
import Derived.Handy
import Derived.Lib.Hide
import Derived.Test.YtfkcdnaghndgfaaGreatDoorProg
import Derived.RangeFuncNested
import Derived.RangeFuncBound
import Derived.RangeFuncCalls
import Derived.RangeFuncLeaves
import Derived.Test.YtfkcdnaghndgfaaGreatDoorQAA
set_option linter.unusedVariables false
set_option linter.unusedSimpArgs false
set_option linter.unusedSectionVars false
namespace Go.Proofs.YtfkcdnaghndgfaaGreatDoor
open Go.RowKit
def zfJ (k:List Nat→Nat→Except Nat (List Nat×Nat)) (r:(Bool×List Nat)×Nat):Except Nat (List Nat×Nat):=if r.1.1=true then .ok (r.1.2,r.2) else k r.1.2 r.2
def jv (s:ByteArray) (most F:Nat):Nat→List Nat→Nat→Except Nat (List Nat×Nat)
 | 0,_,_ => .error 0
 | g+1,out,a=>jF s most F out a >>= zfJ (jv s most F g)
def XG (most:Int):Nat:=(max 0 (min most 65000)).toNat
def ofP (s:ByteArray) (most:Int):Except Nat (List Nat×Nat):=jv s (XG most) (8*s.size+1) (8*s.size+1) [] 0
def zfv:Except Nat (List Nat×Nat)→Value
 | .ok (out,a) => .tuple #[.string (zf out),.int .i64 ((a+7)/8:Nat),.int .i64 0]
 | .error c => .tuple #[.string ⟨#[]⟩,.int .i64 0,.int .i64 (c:Nat)]
theorem of_upd {w w3 w':World} {bw x b:Nat} {v0:Value} (hbw:bw=w.heap.size) (h0:Upd [] w w3) (h:Upd (yP x b v0) w3 w') (hfp : ∀ k∈yP x b v0,bw<k):Upd [] w w' :=
 h0.trans h fun k hk => .inr (by have:=hfp k hk; omega)
theorem zhC {P:Program} {c:Code} {K:Act→World→Prop} {Q:Exit→Act→World→Prop} {a:Act} {w:World} (h:c.wp P (Exit.then K fun _ _ _=>False) a w):c.wp P (Exit.then K Q) a w :=
 Code.wp_mono (fun e a w h=>by cases e<;>first | exact h | exact h.elim) h
theorem KW {x b F:Nat} {v:Value} {w:World} {s:ByteArray} {a:Nat} {out:List Nat} {most:Nat} {l:Bool} {out':List Nat} {a':Nat} (h:StAt w x b v s a out most) (hs:s.size≤1099511627776) (hF:8*s.size<F) (hc:jF s most F out a = .ok ((l,out'),a')) :
 Calls Tryz.prog 98 #[.pointer (some ⟨x,0,none⟩)] w fun e w'=>e = .returned (.bool l) ∧ ∃ v',StAt w' x b v' s a' out' most∧Upd (yP x b v) w w'∧Later w v v':=by
 have:=Vu x b F v w s a out most h hs hF
 rwa [hc] at this
theorem zeV {x b F:Nat} {v:Value} {w:World} {s:ByteArray} {a:Nat} {out:List Nat} {most c:Nat} (h:StAt w x b v s a out most) (hs:s.size≤1099511627776) (hF:8*s.size<F) (hc:jF s most F out a = .error c) :
 Calls Tryz.prog 98 #[.pointer (some ⟨x,0,none⟩)] w fun e w'=>e = .panicked [{ v := .iface 27 (.int .i64 (c:Nat)),recovered:=false }]∧Upd (yP x b v) w w':=by
 have:=Vu x b F v w s a out most h hs hF
 rwa [hc] at this
set_option maxRecDepth 100000 in
set_option maxHeartbeats 6400000 in
theorem zhy (s:ByteArray) (most:Int) (w:World) (hs:s.size≤1099511627776) :
 Calls Tryz.prog 63 #[.string s,.int .i64 most] w fun e w'=>e = .returned (zfv (ofP s most))∧Upd [] w w':=by
 have HS:=Lib.hid (show ofP s most=jv s (XG most) (8*s.size+1) (8*s.size+1) [] 0 by rfl)
 generalize ofP s most=CP at *
 obtain ⟨M,hM⟩ : ∃ M,M=XG most:=⟨_,rfl⟩
 have hM65:M≤65000:=by rw [hM]; unfold XG; omega
 have hMc:max 0 (min most 65000)=(M:Int):=by rw [hM]; unfold XG; omega
 rw [← hM] at HS
 clear hM
 go_enter_defers Tryz.func63,Tryz.ntmps63
 go_wp2_with fail
 have hU1:Upd [] w (w.alloc (Obj.cells #[.int .i64 0] 27)):=(Upd.refl [] w).alloc _
 have hW1:=Blk.new w [.int .i64 0] 27
 have hs1:(w.alloc (Obj.cells #[.int .i64 0] 27)).heap.size=w.heap.size+1:=World.size_alloc _ _
 generalize w.alloc (Obj.cells #[.int .i64 0] 27)=w1 at *
 refine (zgg s w1).mono ?_
 rintro e w2 ⟨rfl,rfl⟩
 go_wp2
 obtain ⟨w3,hw3⟩ : ∃ w3,w3=(w1.alloc (Obj.cells #[.string s,.int .i64 0,.bool false] 194)).alloc (Obj.cells #[.pointer (some ⟨w.heap.size+1,0,none⟩),.slice none 0 0,.int .i64 (M:Nat)] 155):=⟨_,rfl⟩
 have hU13:Upd [] w1 w3:=by rw [hw3]; exact ((Upd.refl [] w1).alloc _).alloc _
 have hW3:Blk w3 w.heap.size [.int .i64 0] 27:=hW1.upd hU13 (by simp)
 have hS3:StAt w3 (w.heap.size+1+1) (w.heap.size+1) (.slice none 0 0) s 0 [] M:=by
  have hr:=zit w1 s 194
  have hr3:=hr.upd ((Upd.refl [] _).alloc (Obj.cells #[.pointer (some ⟨w.heap.size+1,0,none⟩),.slice none 0 0,.int .i64 (M:Nat)] 155)) (by simp)
  have hb:=Blk.new (w1.alloc (Obj.cells #[.string s,.int .i64 0,.bool false] 194)) [.pointer (some ⟨w.heap.size+1,0,none⟩),.slice none 0 0,.int .i64 (M:Nat)] 155
  rw [World.size_alloc,hs1] at hb
  rw [hs1] at hr3
  rw [hw3]
  exact ⟨hb,Row.nil _ _ _,hr3,by simp [Value.ownBlock],by simp [Value.ownBlock],by omega,by simp,hM65,by simp⟩
 rw [← hw3]
 have hU3:=hU1.then hU13
 have hlt3:=hW3.lt
 clear hw3 hU13 hU1 hW1 hs1
 have HU:=Lib.hid hU3
 have hfp : ∀ k∈yP (w.heap.size+1+1) (w.heap.size+1) (.slice none 0 0),w.heap.size<k:=by intro k hk; simp [yP,Value.ownBlock] at hk; omega
 clear hU3
 obtain ⟨bw,hbw⟩ : ∃ bw,bw=w.heap.size:=⟨_,rfl⟩
 rw [← hbw] at hW3 hS3 hfp hlt3 ⊢
 have HBW:=Lib.hid hbw
 clear hbw
 go_loopg [] (8*s.size+1) (fun gg wr => ∃ g out a v,gg=g∧Hid (CP=jv s M (8*s.size+1) g out a)∧8*s.size<g+a∧SymsRel w3 wr (bw+1+1) (bw+1) (.slice none 0 0) v s a out M∧Blk wr bw [.int .i64 0] 27)
 case atStart=>exact ⟨_,[],0,_,rfl,HS,by omega,⟨hS3,.refl _ _,.refl _ _⟩,hW3⟩
 case round =>
  obtain ⟨g,out,a,v,hgg,HE,hg,hSt,hW⟩:=hrel
  have hrd:=hSt.1.rd.2
  clear HS hW3 hS3
  obtain ⟨g,rfl⟩ : ∃ g',g=g'+1:=⟨g-1,by omega⟩
  subst hgg
  have hE:CP=(jF s M (8*s.size+1) out a >>= zfJ (jv s M (8*s.size+1) g)):=HE.out
  clear HE
  cases hb:jF s M (8*s.size+1) out a with
  | error c =>
    have HE:=Lib.hid (show CP = .error c by rw [hE,hb]; rfl)
    clear hE
    go_wp2_with fail
    refine (zeV hSt.1 hs (by omega) hb).mono ?_
    rintro e w4 ⟨rfl,hU4⟩
    have hne:=hSt.2.2.ne hlt3 (show (Value.slice none 0 0).ownBlock≠some bw by simp [Value.ownBlock])
    have hW4:=hW.upd hU4 (by simp only [yP,List.mem_cons,Option.mem_toList]; rintro (h | h | h)<;>first | omega | exact hne h)
    have hUw4:=of_upd HBW.out HU.out (KX hSt.2.1 hSt.2.2 hU4) hfp
    have hx:=hW4.cell 0 rfl
    have hz:=hW4.frz 0
    have HBL:w.heap.size≤bw:=by rw [HBW.out]; exact Nat.le_refl _
    refine leaves_cons (f:=96) (args := #[.pointer (some ⟨bw,0,none⟩)]) (by simp) (by simp [go_sem]) ?_
    refine (QS ⟨bw,0,none⟩ _ (c:Nat) [] w4 hx hz).mono ?_
    rintro e u' w'' ⟨rfl,rfl,rfl⟩
    have hcell:(w4.setCell ⟨bw,0,none⟩ (.int .i64 (c:Nat))).cell? ⟨bw,0,none⟩=some (.int .i64 (c:Nat)):=(hW4.set 0 (.int .i64 (c:Nat))).cell 0 rfl
    simp [Leaves,settle,results,Tryz.results63,go_sem,hcell]
    rw [HE.out]
    exact ⟨rfl,hUw4.setCell (.inr HBL) _⟩
  | ok q =>
    obtain ⟨⟨l,o⟩,a5⟩:=q
    have hadv:=zct hb
    have hE2:CP=if l=true then .ok (o,a5) else jv s M (8*s.size+1) g o a5:=by rw [hE,hb]; rfl
    clear hE
    cases l with
    | true =>
      have HE:=Lib.hid (show CP = .ok (o,a5) by rw [hE2]; rfl)
      clear hE2
      go_wp2_with fail
      refine (KW hSt.1 hs (by omega) hb).mono ?_
      rintro e w4 ⟨rfl,v4,hS4,hU4,hT4⟩
      have hne:=hSt.2.2.ne hlt3 (show (Value.slice none 0 0).ownBlock≠some bw by simp [Value.ownBlock])
      have hW4:=hW.upd hU4 (by simp only [yP,List.mem_cons,Option.mem_toList]; rintro (h | h | h)<;>first | omega | exact hne h)
      have hUw4:=of_upd HBW.out HU.out (KX hSt.2.1 hSt.2.2 hU4) hfp
      have HBL:w.heap.size≤bw:=by rw [HBW.out]; exact Nat.le_refl _
      have hx:=hW4.cell 0 rfl
      have hz:=hW4.frz 0
      have hcA:=hS4.blk.all
      have hcv:=jg (P:=Tryz.prog) w4.drew 75 9 5 Tryz.underlying75 Tryz.underlying5 Tryz.underlying9 (v:=v4) (n:=o.length) (l:=o) hS4.row.drew
      have HT:=Lib.hid (YV (bw+1) w4.drew _ s a5 false hS4.rd hs)
      go_wp2
      refine zhC ?_
      go_region_law ((go_simp; go_at_call 99; refine HT.out.mono ?_; rintro e w5 ⟨rfl,rfl⟩))
      all_goals go_wp2
      all_goals (
       have hcell:(w4.setCell ⟨bw,0,none⟩ (.int .i64 0)).cell? ⟨bw,0,none⟩=some (.int .i64 0):=(hW4.set 0 (.int .i64 0)).cell 0 rfl
       refine leaves_cons (f:=96) (args := #[.pointer (some ⟨bw,0,none⟩)]) (by simp) (by simp [go_sem]) ?_
       refine (KM ⟨bw,0,none⟩ _).mono ?_
       rintro e u' w'' ⟨rfl,rfl,rfl⟩
       simp [Leaves,settle,results,Tryz.results63,go_sem,hcell]
       rw [HE.out]
       exact ⟨rfl,(hUw4.setCell (.inr HBL) _).drew⟩)
    | false =>
      have HE:=Lib.hid (show CP=jv s M (8*s.size+1) g o a5 by rw [hE2]; rfl)
      clear hE2
      go_wp2_with fail
      refine (KW hSt.1 hs (by omega) hb).mono ?_
      rintro e w4 ⟨rfl,v4,hS4,hU4,hT4⟩
      have hne:=hSt.2.2.ne hlt3 (show (Value.slice none 0 0).ownBlock≠some bw by simp [Value.ownBlock])
      have hW4:=hW.upd hU4 (by simp only [yP,List.mem_cons,Option.mem_toList]; rintro (h | h | h)<;>first | omega | exact hne h)
      go_wp2
      go_roundg g
      · exact ⟨g,o,a5,v4,rfl,HE,by omega,hSt.next hS4 hU4 hT4,hW4⟩
      · omega
end Go.Proofs.YtfkcdnaghndgfaaGreatDoor
namespace Go.Proofs.YtfkcdnaghndgfaaGreatDoor
def zi (c:Nat):Nat×Nat×Nat :=
 if c<128 then (1,0,0) else if 194≤c∧c≤223 then (2,128,191) else if c=224 then (3,160,191) else if c=237 then (3,128,159)
 else if 225≤c∧c≤239 then (3,128,191) else if c=240 then (4,144,191) else if 241≤c∧c≤243 then (4,128,191) else if c=244 then (4,128,143) else (0,0,0)
def xV (lo hi:Nat):Nat→List Nat→Bool
 | 0,_=>true
 | _+1,[]=>false
 | n+1,b::r=>decide (lo≤b)&&decide (b≤hi)&&xV 128 191 n r
def zbP:Nat→List Nat→Bool
 | 0,l=>l.isEmpty
 | _+1,[]=>true
 | f+1,c::r=>decide ((zi c).1≠0)&&xV (zi c).2.1 (zi c).2.2 ((zi c).1-1) r&&zbP f (r.drop ((zi c).1-1))
def vZ (l:List Nat):Bool:=zbP l.length l
theorem zb6 (c:Nat):(zi c).1≤4:=by
 unfold zi; repeat' split
 all_goals (dsimp only; omega)
theorem QP : ∀ (f:Nat) (l:List Nat),l.length≤f→zbP f l=zbP l.length l
 | 0,l,h=>by
   have:l=[]:=List.eq_nil_of_length_eq_zero (by omega)
   subst this; rfl
 | f+1,[],_=>rfl
 | f+1,c::r,h=>by
   have hr:r.length≤f:=by rw [List.length_cons] at h; omega
   have hd:(r.drop ((zi c).1-1)).length≤r.length:=by rw [List.length_drop]; omega
   show (decide ((zi c).1≠0)&&xV (zi c).2.1 (zi c).2.2 ((zi c).1-1) r&&zbP f (r.drop ((zi c).1-1)))=(decide ((zi c).1≠0)&&xV (zi c).2.1 (zi c).2.2 ((zi c).1-1) r&&zbP r.length (r.drop ((zi c).1-1)))
   rw [QP f _ (by omega),QP r.length _ hd]
 termination_by f _ _=>f
 decreasing_by all_goals (simp_wf; try (rw [List.length_cons] at *); omega)
theorem Ve (c:Nat) (r:List Nat):vZ (c::r)=(decide ((zi c).1≠0)&&xV (zi c).2.1 (zi c).2.2 ((zi c).1-1) r&&vZ (r.drop ((zi c).1-1))):=by
 show (decide ((zi c).1≠0)&&xV (zi c).2.1 (zi c).2.2 ((zi c).1-1) r&&zbP r.length (r.drop ((zi c).1-1)))=_
 rw [QP r.length _ (by rw [List.length_drop]; omega)]
 rfl
def xq (l:List Nat):Bool:=l.all (fun c=>!(decide (c<32)||decide (c=127)||decide (c=47)||decide (c=92)||decide (c=58)))&&decide (1≤l.length)&&decide (l.length≤60)&&decide (l≠[46])&&decide (l≠[46,46])&&vZ l
end Go.Proofs.YtfkcdnaghndgfaaGreatDoor
namespace Go.Proofs.YtfkcdnaghndgfaaGreatDoor
open Go.RowKit
def zi2 (p:Nat×Nat×Nat):Value := .tuple #[.int .i64 (p.1:Nat),.int .u8 (p.2.1:Nat),.int .u8 (p.2.2:Nat)]
set_option maxRecDepth 100000 in
set_option maxHeartbeats 4000000 in
theorem zbY (s:ByteArray) (w:World) (h:0<s.size) (hs:s.size≤9223372036854775807):Calls Tryz.prog 204 #[.string s] w fun e w' =>
 e = .returned (zi2 (zi s[0].toNat))∧w=w':=by
 have hlt:=s[0].toNat_lt
 have ways:(s[0].toNat<128)∨(128≤s[0].toNat∧s[0].toNat<194)∨(194≤s[0].toNat∧s[0].toNat≤223)∨(s[0].toNat=224)∨(225≤s[0].toNat∧s[0].toNat<237)∨(s[0].toNat=237)∨(238≤s[0].toNat∧s[0].toNat≤239)∨(s[0].toNat=240)∨(241≤s[0].toNat∧s[0].toNat≤243)∨(s[0].toNat=244)∨(245≤s[0].toNat):=by omega
 rcases ways with h0 | h0 | h0 | h0 | h0 | h0 | h0 | h0 | h0 | h0 | h0
 · have HV:Hid (zi s[0].toNat=(1,0,0)):=Lib.hid (by
    unfold zi
    repeat' split
    all_goals first | rfl | (exfalso; omega))
   rw [HV.out]
   go_enter Tryz.func204,Tryz.ntmps204
   go_wp2
   all_goals first
    | (go_ret; exact ⟨rfl,rfl⟩)
    | (refine bodyPost_ret (results_tmp3 rfl _ _ _) rfl ⟨rfl,rfl⟩)
    | (exfalso; omega)
 · have HV:Hid (zi s[0].toNat=(0,0,0)):=Lib.hid (by
    unfold zi
    repeat' split
    all_goals first | rfl | (exfalso; omega))
   rw [HV.out]
   go_enter Tryz.func204,Tryz.ntmps204
   go_wp2
   all_goals first
    | (go_ret; exact ⟨rfl,rfl⟩)
    | (refine bodyPost_ret (results_tmp3 rfl _ _ _) rfl ⟨rfl,rfl⟩)
    | (exfalso; omega)
 · have HV:Hid (zi s[0].toNat=(2,128,191)):=Lib.hid (by
    unfold zi
    repeat' split
    all_goals first | rfl | (exfalso; omega))
   rw [HV.out]
   go_enter Tryz.func204,Tryz.ntmps204
   go_wp2
   all_goals first
    | (go_ret; exact ⟨rfl,rfl⟩)
    | (refine bodyPost_ret (results_tmp3 rfl _ _ _) rfl ⟨rfl,rfl⟩)
    | (exfalso; omega)
 · have HV:Hid (zi s[0].toNat=(3,160,191)):=Lib.hid (by
    unfold zi
    repeat' split
    all_goals first | rfl | (exfalso; omega))
   rw [HV.out]
   go_enter Tryz.func204,Tryz.ntmps204
   go_wp2
   all_goals first
    | (go_ret; exact ⟨rfl,rfl⟩)
    | (refine bodyPost_ret (results_tmp3 rfl _ _ _) rfl ⟨rfl,rfl⟩)
    | (exfalso; omega)
 · have HV:Hid (zi s[0].toNat=(3,128,191)):=Lib.hid (by
    unfold zi
    repeat' split
    all_goals first | rfl | (exfalso; omega))
   rw [HV.out]
   go_enter Tryz.func204,Tryz.ntmps204
   go_wp2
   all_goals first
    | (go_ret; exact ⟨rfl,rfl⟩)
    | (refine bodyPost_ret (results_tmp3 rfl _ _ _) rfl ⟨rfl,rfl⟩)
    | (exfalso; omega)
 · have HV:Hid (zi s[0].toNat=(3,128,159)):=Lib.hid (by
    unfold zi
    repeat' split
    all_goals first | rfl | (exfalso; omega))
   rw [HV.out]
   go_enter Tryz.func204,Tryz.ntmps204
   go_wp2
   all_goals first
    | (go_ret; exact ⟨rfl,rfl⟩)
    | (refine bodyPost_ret (results_tmp3 rfl _ _ _) rfl ⟨rfl,rfl⟩)
    | (exfalso; omega)
 · have HV:Hid (zi s[0].toNat=(3,128,191)):=Lib.hid (by
    unfold zi
    repeat' split
    all_goals first | rfl | (exfalso; omega))
   rw [HV.out]
   go_enter Tryz.func204,Tryz.ntmps204
   go_wp2
   all_goals first
    | (go_ret; exact ⟨rfl,rfl⟩)
    | (refine bodyPost_ret (results_tmp3 rfl _ _ _) rfl ⟨rfl,rfl⟩)
    | (exfalso; omega)
 · have HV:Hid (zi s[0].toNat=(4,144,191)):=Lib.hid (by
    unfold zi
    repeat' split
    all_goals first | rfl | (exfalso; omega))
   rw [HV.out]
   go_enter Tryz.func204,Tryz.ntmps204
   go_wp2
   all_goals first
    | (go_ret; exact ⟨rfl,rfl⟩)
    | (refine bodyPost_ret (results_tmp3 rfl _ _ _) rfl ⟨rfl,rfl⟩)
    | (exfalso; omega)
 · have HV:Hid (zi s[0].toNat=(4,128,191)):=Lib.hid (by
    unfold zi
    repeat' split
    all_goals first | rfl | (exfalso; omega))
   rw [HV.out]
   go_enter Tryz.func204,Tryz.ntmps204
   go_wp2
   all_goals first
    | (go_ret; exact ⟨rfl,rfl⟩)
    | (refine bodyPost_ret (results_tmp3 rfl _ _ _) rfl ⟨rfl,rfl⟩)
    | (exfalso; omega)
 · have HV:Hid (zi s[0].toNat=(4,128,143)):=Lib.hid (by
    unfold zi
    repeat' split
    all_goals first | rfl | (exfalso; omega))
   rw [HV.out]
   go_enter Tryz.func204,Tryz.ntmps204
   go_wp2
   all_goals first
    | (go_ret; exact ⟨rfl,rfl⟩)
    | (refine bodyPost_ret (results_tmp3 rfl _ _ _) rfl ⟨rfl,rfl⟩)
    | (exfalso; omega)
 · have HV:Hid (zi s[0].toNat=(0,0,0)):=Lib.hid (by
    unfold zi
    repeat' split
    all_goals first | rfl | (exfalso; omega))
   rw [HV.out]
   go_enter Tryz.func204,Tryz.ntmps204
   go_wp2
   all_goals first
    | (go_ret; exact ⟨rfl,rfl⟩)
    | (refine bodyPost_ret (results_tmp3 rfl _ _ _) rfl ⟨rfl,rfl⟩)
    | (exfalso; omega)
end Go.Proofs.YtfkcdnaghndgfaaGreatDoor
namespace Go.Proofs.YtfkcdnaghndgfaaGreatDoor
def zw:List Nat→List (List Nat)
 | []=>[[]]
 | c::r=>if c=47 then []::zw r else (c::(zw r).headD [])::(zw r).tail
theorem ze2 (l:List Nat):zw l≠[]:=by
 cases l with
 | nil=>simp [zw]
 | cons c r=>unfold zw; split<;>simp
theorem Vc (l:List Nat):zw l=(zw l).headD []::(zw l).tail:=by
 cases h:zw l with
 | nil=>exact absurd h (ze2 l)
 | cons a b=>rfl
theorem kQ : ∀ (l:List Nat) (p:List Nat),p∈zw l → ∀ x∈p,x∈l
 | [],p,h,x,hx=>by simp [zw] at h; subst h; exact hx
 | c::r,p,h,x,hx=>by
   unfold zw at h
   split at h
   · rcases List.mem_cons.1 h with rfl | h
     · simp at hx
     · exact List.mem_cons_of_mem _ (kQ r p h x hx)
   · rcases List.mem_cons.1 h with rfl | h
     · rcases List.mem_cons.1 hx with rfl | hx
       · simp
       · refine List.mem_cons_of_mem _ (kQ r ((zw r).headD []) ?_ x hx)
         rw [Vc r]; simp
     · exact List.mem_cons_of_mem _ (kQ r p (List.mem_of_mem_tail h) x hx)
def Xa:List Nat:=[46,115,119,105,110,103,108,101]
def yG (l:List Nat):Bool:=decide (l.length≤200)&&decide ((zw l).headD []≠Xa)&&decide ((zw l).length≤12)&&(zw l).all xq
theorem zai {l:List Nat} (h:200<l.length):yG l=false:=by unfold yG; rw [decide_eq_false (by omega)]; rfl
theorem zbD {l:List Nat} (h:(zw l).headD []=Xa):yG l=false:=by unfold yG; rw [h]; simp
theorem WX {l:List Nat} (h:12<(zw l).length):yG l=false:=by unfold yG; rw [decide_eq_false (by omega : ¬ (zw l).length≤12)]; simp
theorem zco {l p:List Nat} (h:p∈zw l) (hp:xq p=false):yG l=false:=by
 unfold yG
 have:(zw l).all xq=false:=by rw [List.all_eq_false]; exact ⟨p,h,by simp [hp]⟩
 rw [this]; simp
theorem za9 {l:List Nat} (h1:l.length≤200) (h2:(zw l).headD []≠Xa) (h3:(zw l).length≤12) (h4 : ∀ p∈zw l,xq p=true):yG l=true:=by
 unfold yG
 rw [decide_eq_true h1,decide_eq_true h2,decide_eq_true h3,List.all_eq_true.2 h4]; rfl
theorem Yn {l:List Nat} (h:yG l=true):l.length≤200:=by
 unfold yG at h; simp only [Bool.and_eq_true,decide_eq_true_eq] at h; exact h.1.1.1
end Go.Proofs.YtfkcdnaghndgfaaGreatDoor
namespace Go.Proofs.YtfkcdnaghndgfaaGreatDoor
open Go.RowKit
def Keep (ks:List Nat) (W W':World):Prop:=W.heap.size≤W'.heap.size ∧ ∀ k∈ks,W'.heap[k]? =W.heap[k]?
theorem Keep.refl (ks:List Nat) (W:World):Keep ks W W:=⟨Nat.le_refl _,fun _ _=>rfl⟩
theorem Keep.trans {ks:List Nat} {A B C:World} (h:Keep ks A B) (k:Keep ks B C):Keep ks A C:=⟨Nat.le_trans h.1 k.1,fun i hi=>(k.2 i hi).trans (h.2 i hi)⟩
theorem Keep.putObj {ks:List Nat} {W:World} {l:Nat} (o:Obj) (hl : ∀ k∈ks,k≠l):Keep ks W (W.putObj l o):=⟨by simp,fun k hk=>World.putObj_heap_other (hl k hk)⟩
theorem Keep.of_upd {ks fp:List Nat} {W W':World} (h:Upd fp W W') (hk : ∀ k∈ks,k<W.heap.size∧k∉fp):Keep ks W W':=⟨h.size,fun k hm=>h.block k (hk k hm).1 (hk k hm).2⟩
def Own2 (fp:List Nat) (A B:World):Prop:=Upd fp A B∧KeepsOthers A B
theorem Own2.refl (fp:List Nat) (A:World):Own2 fp A A:=⟨Upd.refl _ _,KeepsOthers.refl _⟩
theorem Own2.trans {fp:List Nat} {A B C:World} (h:Own2 fp A B) (k:Own2 fp B C):Own2 fp A C:=⟨h.1.then k.1,h.2.trans k.2⟩
theorem Blk.cellsOnly {w:World} {b:Nat} {cs:List Value} {t:TypeId} (h:Blk w b cs t) : ∀ o,w.heap[b]? =some o→o.isCells=true:=fun o ho=>by
 unfold Blk at h; rw [h] at ho; cases ho; rfl
theorem Row.cellsOnly {w:World} {e:TypeId} {size:Nat} {v:Value} {n:Nat} {xs:List Value} (h:Row w e size v n xs) : ∀ g,v.ownBlock=some g → ∀ o,w.heap[g]? =some o→o.isCells=true:=fun g hg o ho=>by
 rcases h.2 with ⟨rfl,rfl⟩ | ⟨g',cap,cur,rfl,hb,hh,_⟩
 · simp [Value.ownBlock] at hg
 · simp [Value.ownBlock] at hg; subst hg; rw [hh] at ho; cases ho; rfl
theorem Upd.others {fp:List Nat} {w w':World} (h:Upd fp w w') (hc : ∀ k,k∈fp → ∀ o,w.heap[k]? =some o→o.isCells=true):KeepsOthers w w' :=
 ⟨h.size,fun k o ho hn=>by
  by_cases hm:k∈fp
  · have:=hc k hm o ho; rw [this] at hn; cases hn
  · exact (h.block k (Array.getElem?_eq_some_iff.1 ho).1 hm).trans ho⟩
theorem Kr {fp fq:List Nat} {w w':World} (h:Upd fq w w') (hs : ∀ k∈fq,k∈fp) (hc : ∀ k,k∈fq → ∀ o,w.heap[k]? =some o→o.isCells=true):Own2 fp w w':=⟨h.mono fun k hk => .inl (hs k hk),h.others hc⟩
theorem Xi {β:Type} (B:Nat) (fp:List Nat) (w0:World) (hB:w0.heap.size≤B):OwnFrom B (fun (_:β) W=>Upd fp w0 W):=fun _ W W' row hs hg hr =>
 hs.grown hg (fun k hk => .inr (by have:=(hr k hk).1; omega))
theorem qg {β:Type} (B b:Nat) (f:β→List Value) (t:TypeId):OwnFrom B (fun s W=>Blk W b (f s) t):=fun s W W' row hs hg hr =>
 Blk.grown hs hg (fun e=>by obtain ⟨_,o,ho,hc⟩:=hr b e; rw [Blk.cellsOnly hs o ho] at hc; cases hc)
theorem Row.ownF {w w':World} {e:TypeId} {size:Nat} {v:Value} {n:Nat} {xs:List Value} {row:Option Nat} {B:Nat} (h:Row w e size v n xs) (hg:w.grownBy w' row) (hr : ∀ r,row=some r→B≤r ∧ ∃ o:Obj,w.heap[r]? =some o∧o.isCells=false):Row w' e size v n xs :=
 h.upd ((Upd.refl row.toList w).grown hg (fun k hk => .inl (by simp [hk]))) (fun k hk hm=>by
  simp at hm; obtain ⟨_,o,ho,hc⟩:=hr k hm; rw [h.cellsOnly k hk o ho] at hc; cases hc)
def zh9 {α:Type} (P:Program) (g:Nat) (lb:Array Value) (encs:α→Array Value) (fp ks:List Nat) (S Sp:List α→Prop) (N:Nat) (w:World):Prop :=
 ∀ (l:Nat) (J Jx:List α→World→Prop) (W:World),Upd [] w W→W.heap.size=w.heap.size+2→(∀ s A B,J s A→Own2 fp A B→J s B)→(∀ s A B,Jx s A→Own2 fp A B→Jx s B) →
  (∀ pre x W1,J pre W1→pre.length<N→(∀ k∈fp,k<W1.heap.size)→YieldAt Fence.wide 7 P l (encs x) W1 fun e W'=>(e = .returned (.bool true)∧J (pre++[x]) W'∧Keep ks W1 W')∨(e = .returned (.bool false)∧Jx (pre++[x]) W'))→J [] W →
  CallsIn Fence.wide 8 P g (#[.func (.yield l) #[] #[]]++lb) W fun e W'=>(∃ v,e = .returned v)∧((∃ xs,S xs∧J xs W')∨(∃ pre,Sp pre∧Jx pre W'))
section
variable {α:Type} {P:Program} {g:Operand} {ps:Array Tmp} {assign body:Code} {Q:Exit→Act→World→Prop} {a:Act} {w:World}
theorem ziU {gf:Nat} {lb:Array Value} (hg:a.eval g = .func (.func gf) #[] lb) (eg : ∀ args w,(callFunc gf args).run P w = .ok (.enter gf args) w)
 {encs:α→Array Value} {fp ks:List Nat} {S Sp:List α→Prop} {N:Nat} (hseq:zh9 P gf lb encs fp ks S Sp N w) (hks : ∀ k∈ks,k≠w.heap.size+1) (hps : ∀ x,(encs x).size=ps.size)
 (I:List α→World→Prop) (Ix:Code→List α→World→Prop) (Mid:List α→α→Act→World→Prop)
 (hI:OwnFrom w.heap.size I) (hIx : ∀ c,OwnFrom w.heap.size (Ix c)) (hMid : ∀ pre x a',OwnFrom w.heap.size (fun (_:Unit) W=>Mid pre x a' W))
 (hIw : ∀ s A B,I s A→Own2 fp A B→I s B) (hIxw : ∀ c s A B,Ix c s A→Own2 fp A B→Ix c s B) (h0:I [] w)
 (hassign : ∀ (l:Nat) (pre:List α) (x:α) (W:World) (K:Act→World→Prop),I pre W→w.heap.size≤W.heap.size→(∀ k∈fp,k<W.heap.size)→(∀ a' W',KeepsFrom w.heap.size W W'→Keep ks W W'→Mid pre x a' W'→K a' W') →
  assign.wpIn (Fence.wide.inRound l) 7 P (Exit.then K (fun _ _ _=>False)) { tmps:=(ps.zip (encs x)).foldl (fun t (p,v)=>t.setIfInBounds p v) a.tmps,defers:=[] } W)
 (hbody : ∀ (l:Nat) (pre:List α) (x:α) (a':Act) (W:World),w.heap.size≤W.heap.size→Mid pre x a' W→pre.length<N →
  body.wpIn (Fence.wide.inRound l) 7 P (ownPostG w.heap.size (Keep ks) I Ix (pre++[x]) W) a' W)
 (hdone : ∀ (D:Nat) (xs:List α) (W:World),w.heap.size≤D→S xs→I xs W→W.heap[D]? =some (.deferred (some []))→Q .normal { a with defers := { target := .collected D,args := #[] }::a.defers } W)
 (hstop : ∀ (D:Nat) (c:Code) (pre:List α) (W:World),w.heap.size≤D→Sp pre→Ix c pre W→W.heap[D]? =some (.deferred (some []))→c.wpIn Fence.wide 9 P Q { a with defers := { target := .collected D,args := #[] }::a.defers } W) :
 (Code.rangeFunc g ps assign body).wpIn Fence.wide 9 P Q a w:=by
 refine wpIn_rangeFunc fun fn hfn=>?_
 let rc:LoopState→Option Code→Loop:=fun s p => { state:=s,pending:=p,fn,tmps:=a.tmps,params:=ps,assign,body,defers:=w.heap.size }
 let wD:=w.alloc (.deferred (some []))
 let wL:=wD.alloc (.loop (rc .ready none))
 have zD:wD.heap.size=w.heap.size+1:=by simp [wD]
 have recL:wL.heap[w.heap.size+1]? =some (.loop (rc .ready none)):=by
  have:=World.alloc_heap_new wD (.loop (rc .ready none)); rwa [zD] at this
 have defL:wL.heap[w.heap.size]? =some (.deferred (some [])):=(Below.heap_alloc wD _ _ (by omega)).trans (World.alloc_heap_new w _)
 have iL:I [] wL:=hI.alloc _ (hI.alloc _ h0)
 have uL:Upd [] w wL:=((Upd.refl [] w).alloc _).alloc _
 refine ⟨w.heap.size+1,[{ target := .collected w.heap.size,args := #[] }],wL,{ target := .fn (.func gf) lb,args := #[.func (.yield (w.heap.size+1)) #[] #[]] },wL,gf,#[.func (.yield (w.heap.size+1)) #[] #[]]++lb,wL,run_enterLoop_outer _ _ _ _ _,by simp only [resolve,hg]; simp [go_sem],fun _ _=>trivial,by simp [invoke,go_sem,eg],(fun _=>by omega),?_⟩
 have kept : ∀ {A B:World} {k:Nat} {o:Obj},Own2 fp A B→A.heap[k]? =some o→o.isCells=false→B.heap[k]? =some o:=fun hAB h hc=>hAB.2.same _ _ h hc
 refine (hseq (w.heap.size+1)
  (fun s W=>I s W∧W.heap[w.heap.size+1]? =some (.loop (rc .ready none))∧W.heap[w.heap.size]? =some (.deferred (some [])))
  (fun s W => ∃ c,Ix c s W∧W.heap[w.heap.size+1]? =some (.loop (rc .done (some c)))∧W.heap[w.heap.size]? =some (.deferred (some [])))
  wL uL (by simp [wL,zD]) (fun s A B h hAB=>⟨hIw s A B h.1 hAB,kept hAB h.2.1 rfl,kept hAB h.2.2 rfl⟩)
  (fun s A B h hAB=>by obtain ⟨c,h1,h2,h3⟩:=h; exact ⟨c,hIxw c s A B h1 hAB,kept hAB h2 rfl,kept hAB h3 rfl⟩) ?round ⟨iL,recL,defL⟩).mono ?behind
 case round =>
  rintro pre x W ⟨hi,hr,hd⟩ hlen hfp
  have hsz:w.heap.size≤W.heap.size:=by have:=(Array.getElem?_eq_some_iff.1 hr).1; omega
  refine ⟨fn,_,assign,body,run_yield (r:=rc .ready none) hr (hps x),roundIn_of_wpIn hfn (hassign _ pre x W _ hi hsz hfp fun a' Wa hkf hkp hmid=>?_)⟩
  have hr1:=hkf.same _ _ (by omega) hr rfl
  have hd1:=hkf.same _ _ (Nat.le_refl _) hd rfl
  have hl1:w.heap.size+1<Wa.heap.size:=(Array.getElem?_eq_some_iff.1 hr1).1
  refine ⟨_,run_beginRound hr1 rfl,?_⟩
  let Wb:=Wa.putObj (w.heap.size+1) (.loop (rc .busy none))
  have hr2:Wb.heap[w.heap.size+1]? =some (.loop (rc .busy none)):=World.putObj_heap_same hl1
  have hd2:Wb.heap[w.heap.size]? =some (.deferred (some [])):=(World.putObj_heap_other (by omega)).trans hd1
  have hkb:Keep ks W Wb:=hkp.trans (Keep.putObj _ fun k hk=>hks k hk)
  have hmb:Mid pre x a' Wb:=(hMid pre x a').putObj (s:=()) _ hmid (by omega) hr1 rfl
  refine wpIn_mono (hbody _ pre x a' Wb (by show w.heap.size≤(Wa.putObj _ _).heap.size; simp; omega) hmb hlen) fun e a3 W3 hp=>?_
  have fin : ∀ (j:Option Code),KeepsFrom w.heap.size Wb W3 →
   (Instr.endRound (w.heap.size+1) j).run P W3 = .ok (.bool j.isNone) (W3.putObj (w.heap.size+1) (.loop (rc (if j.isNone then .ready else .done) j)))∧W3.heap[w.heap.size+1]? =some (.loop (rc .busy none)) ∧
   (W3.putObj (w.heap.size+1) (.loop (rc (if j.isNone then .ready else .done) j))).heap[w.heap.size+1]? =some (.loop (rc (if j.isNone then .ready else .done) j)) ∧
   (W3.putObj (w.heap.size+1) (.loop (rc (if j.isNone then .ready else .done) j))).heap[w.heap.size]? =some (.deferred (some [])):=fun j hk=>by
   have hr3:=hk.same _ _ (by omega) hr2 rfl
   exact ⟨run_endRound j hr3,hr3,World.putObj_heap_same (Array.getElem?_eq_some_iff.1 hr3).1,(World.putObj_heap_other (by omega)).trans (hk.same _ _ (Nat.le_refl _) hd2 rfl)⟩
  have out : ∀ (c:Code),KeepsFrom w.heap.size Wb W3∧Ix c (pre++[x]) W3 → ∃ v W4,(Instr.endRound (w.heap.size+1) (some c)).run P W3 = .ok v W4 ∧
   ((Ending.returned v = .returned (.bool true)∧(I (pre++[x]) W4∧W4.heap[w.heap.size+1]? =some (.loop (rc .ready none))∧W4.heap[w.heap.size]? =some (.deferred (some [])))∧Keep ks W W4) ∨
    (Ending.returned v = .returned (.bool false) ∧ ∃ c,Ix c (pre++[x]) W4∧W4.heap[w.heap.size+1]? =some (.loop (rc .done (some c)))∧W4.heap[w.heap.size]? =some (.deferred (some [])))):=fun c h=>by
   obtain ⟨hrun,hr3,hr4,hd4⟩:=fin (some c) h.1
   exact ⟨_,_,hrun,.inr ⟨rfl,c,(hIx c).putObj _ h.2 (by omega) hr3 rfl,hr4,hd4⟩⟩
  cases e with
  | normal =>
    obtain ⟨hrun,hr3,hr4,hd4⟩:=fin none hp.1
    exact ⟨_,_,hrun,.inl ⟨rfl,⟨hI.putObj _ hp.2.2 (by omega) hr3 rfl,hr4,hd4⟩,(hkb.trans hp.2.1).trans (Keep.putObj _ fun k hk=>hks k hk)⟩⟩
  | ret=>exact out .ret hp
  | exit id=>exact out (.exit id) hp
  | goto t=>exact out (.goto t) hp
  | panic ch=>exact hp.elim
  | outgrown=>exact hp.elim
 case behind =>
  rintro e W2 ⟨⟨v,rfl⟩,(⟨xs,hS,hi,hr,hd⟩ | ⟨pre,hSp,c,hi,hr,hd⟩)⟩
  · exact ⟨none,_,run_endLoop (r:=rc .ready none) hr (by simp [rc]),hdone _ xs _ (Nat.le_refl _) hS (hI.putObj _ hi (by omega) hr rfl) ((World.putObj_heap_other (by omega)).trans hd)⟩
  · exact ⟨some c,_,run_endLoop (r:=rc .done (some c)) hr (by simp [rc]),hstop _ c pre _ (Nat.le_refl _) hSp ((hIx c).putObj _ hi (by omega) hr rfl) ((World.putObj_heap_other (by omega)).trans hd)⟩
theorem ziE {gf:Nat} {lb:Array Value} (hg:a.eval g = .func (.func gf) #[] lb) (eg : ∀ args w,(callFunc gf args).run P w = .ok (.enter gf args) w)
 {encs:α→Array Value} {fp ks:List Nat} {S Sp:List α→Prop} {N:Nat} (hseq:zh9 P gf lb encs fp ks S Sp N w) (hks : ∀ k∈ks,k≠w.heap.size+1) (hps : ∀ x,(encs x).size=ps.size)
 (I:List α→World→Prop) (Ix:Code→List α→World→Prop) (act:α→Act)
 (hI:OwnFrom w.heap.size I) (hIx : ∀ c,OwnFrom w.heap.size (Ix c)) (hIw : ∀ s A B,I s A→Own2 fp A B→I s B) (hIxw : ∀ c s A B,Ix c s A→Own2 fp A B→Ix c s B) (h0:I [] w)
 (hassign : ∀ (l:Nat) (x:α) (W:World) (K:Act→World→Prop),K (act x) W →
  assign.wpIn (Fence.wide.inRound l) 7 P (Exit.then K (fun _ _ _=>False)) { tmps:=(ps.zip (encs x)).foldl (fun t (p,v)=>t.setIfInBounds p v) a.tmps,defers:=[] } W)
 (hbody : ∀ (l:Nat) (pre:List α) (x:α) (W:World),w.heap.size≤W.heap.size→(∀ k∈fp,k<W.heap.size)→I pre W→pre.length<N →
  body.wpIn (Fence.wide.inRound l) 7 P (ownPostG w.heap.size (Keep ks) I Ix (pre++[x]) W) (act x) W)
 (hdone : ∀ (D:Nat) (xs:List α) (W:World),w.heap.size≤D→S xs→I xs W→W.heap[D]? =some (.deferred (some []))→Q .normal { a with defers := { target := .collected D,args := #[] }::a.defers } W)
 (hstop : ∀ (D:Nat) (c:Code) (pre:List α) (W:World),w.heap.size≤D→Sp pre→Ix c pre W→W.heap[D]? =some (.deferred (some []))→c.wpIn Fence.wide 9 P Q { a with defers := { target := .collected D,args := #[] }::a.defers } W) :
 (Code.rangeFunc g ps assign body).wpIn Fence.wide 9 P Q a w :=
 ziU hg eg hseq hks hps I Ix (fun pre x a' W=>(I pre W ∧ ∀ k∈fp,k<W.heap.size)∧a'=act x) hI hIx
  (fun pre x a' _ A B row hs hg hr=>⟨⟨hI pre A B row hs.1.1 hg hr,fun k hk=>Nat.lt_of_lt_of_le (hs.1.2 k hk) hg.size⟩,hs.2⟩) hIw hIxw h0
  (fun l pre x W K hi hsz hfp hK=>hassign l x W K (hK _ _ (KeepsFrom.refl _ _) (Keep.refl _ _) ⟨⟨hi,hfp⟩,rfl⟩))
  (fun l pre x a' W hsz hm hlt=>by obtain ⟨⟨h1,h2⟩,rfl⟩:=hm; exact hbody l pre x W hsz h2 h1 hlt) hdone hstop
end
end Go.Proofs.YtfkcdnaghndgfaaGreatDoor
