/- Package inflate: Of: plain, and its walk. -/
import Derived.Test.YtfkenhihcmmgkaaGreatDoorQAJ
import Derived.Test.YtfkenhihcmmgkaaGreatDoorProg
import Derived.RangeFuncNested
import Derived.RangeFuncBound
import Derived.RangeFuncCalls
import Derived.RangeFuncLeaves
import Derived.Shelf.Abstract
import Derived.Shelf.RegionOpen
import Derived.OwnWalkIn
import Derived.TacticsInMore
import Derived.LoopNIn
import Derived.LoopIn
import Derived.Sort.LoopGhostIn
import Derived.Lib.Bytealg
set_option linter.unusedVariables false
set_option linter.unusedSimpArgs false
set_option linter.unusedSectionVars false
set_option maxRecDepth 100000
set_option maxHeartbeats 12800000
namespace Go.Proofs.YtfkenhihcmmgkaaGreatDoor
open Go.RowKit
def zgV (k:List Nat→Nat→Except Nat (List Nat×Nat)) (r:(Bool×List Nat)×Nat):Except Nat (List Nat×Nat):=if r.1.1=true then .ok (r.1.2,r.2) else k r.1.2 r.2
def qN (s:ByteArray) (most F:Nat):Nat→List Nat→Nat→Except Nat (List Nat×Nat)
 | 0,_,_ => .error 0
 | g+1,out,a=>km s most F out a >>= zgV (qN s most F g)
def Yx (most:Int):Nat:=(max 0 (min most 65000)).toNat
def ofP (s:ByteArray) (most:Int):Except Nat (List Nat×Nat):=qN s (Yx most) (8*s.size+1) (8*s.size+1) [] 0
def WF:Except Nat (List Nat×Nat)→Value
 | .ok (out,a) => .tuple #[.string (zg out),.int .i64 ((a+7)/8:Nat),.int .i64 0]
 | .error c => .tuple #[.string ⟨#[]⟩,.int .i64 0,.int .i64 (c:Nat)]
theorem of_upd {w w3 w':World} {bw x b:Nat} {v0:Value} (hbw:bw=w.heap.size) (h0:Upd [] w w3) (h:Upd (yV x b v0) w3 w') (hfp : ∀ k∈yV x b v0,bw<k):Upd [] w w' :=
 h0.trans h fun k hk => .inr (by have:=hfp k hk; omega)
theorem zh2 {P:Program} {c:Code} {K:Act→World→Prop} {Q:Exit→Act→World→Prop} {a:Act} {w:World} (h:c.wp P (Exit.then K fun _ _ _=>False) a w):c.wp P (Exit.then K Q) a w :=
 Code.wp_mono (fun e a w h=>by cases e<;>first | exact h | exact h.elim) h
theorem zbx {x b F:Nat} {v:Value} {w:World} {s:ByteArray} {a:Nat} {out:List Nat} {most:Nat} {l:Bool} {out':List Nat} {a':Nat} (h:StAt w x b v s a out most) (hs:s.size≤1099511627776) (hF:8*s.size<F) (hc:km s most F out a = .ok ((l,out'),a')) :
 Calls Tryz.prog 176 #[.pointer (some ⟨x,0,none⟩)] w fun e w'=>e = .returned (.bool l) ∧ ∃ v',StAt w' x b v' s a' out' most∧Upd (yV x b v) w w'∧Later w v v':=by
 have:=VC x b F v w s a out most h hs hF;rwa [hc] at this
theorem zfT {x b F:Nat} {v:Value} {w:World} {s:ByteArray} {a:Nat} {out:List Nat} {most c:Nat} (h:StAt w x b v s a out most) (hs:s.size≤1099511627776) (hF:8*s.size<F) (hc:km s most F out a = .error c) :
 Calls Tryz.prog 176 #[.pointer (some ⟨x,0,none⟩)] w fun e w'=>e = .panicked [{ v := .iface 29 (.int .i64 (c:Nat)),recovered:=false }]∧Upd (yV x b v) w w':=by
 have:=VC x b F v w s a out most h hs hF;rwa [hc] at this
theorem zi0 (s:ByteArray) (most:Int) (w:World) (hs:s.size≤1099511627776) :
 Calls Tryz.prog 111 #[.string s,.int .i64 most] w fun e w'=>e = .returned (WF (ofP s most))∧Upd [] w w':=by
 have HS:=Hi (show ofP s most=qN s (Yx most) (8*s.size+1) (8*s.size+1) [] 0 by rfl);generalize ofP s most=CP at *;obtain ⟨M,hM⟩ : ∃ M,M=Yx most:=⟨_,rfl⟩;have hM65:M≤65000:=by rw [hM]; unfold Yx; omega
 have hMc:max 0 (min most 65000)=(M:Int):=by rw [hM]; unfold Yx; omega
 rw [← hM] at HS;clear hM
 go_enter_defers Tryz.func111,Tryz.ntmps111
 go_wp2_with fail
 have hU1:Upd [] w (w.alloc (Obj.cells #[.int .i64 0] 29)):=(Upd.refl [] w).alloc _;have hW1:=Blk.new w [.int .i64 0] 29;have hs1:(w.alloc (Obj.cells #[.int .i64 0] 29)).heap.size=w.heap.size+1:=World.size_alloc _ _;generalize w.alloc (Obj.cells #[.int .i64 0] 29)=w1 at *;refine (zgK s w1).mono ?_;rintro e w2 ⟨rfl,rfl⟩;go_wp2;obtain ⟨w3,hw3⟩ : ∃ w3,w3=(w1.alloc (Obj.cells #[.string s,.int .i64 0,.bool false] 292)).alloc (Obj.cells #[.pointer (some ⟨w.heap.size+1,0,none⟩),.slice none 0 0,.int .i64 (M:Nat)] 238):=⟨_,rfl⟩;have hU13:Upd [] w1 w3:=by rw [hw3]; exact ((Upd.refl [] w1).alloc _).alloc _
 have hW3:Blk w3 w.heap.size [.int .i64 0] 29:=hW1.upd hU13 (by simp);have hS3:StAt w3 (w.heap.size+1+1) (w.heap.size+1) (.slice none 0 0) s 0 [] M:=by
  have hr:=zgD w1 s 292;have hr3:=hr.upd ((Upd.refl [] _).alloc (Obj.cells #[.pointer (some ⟨w.heap.size+1,0,none⟩),.slice none 0 0,.int .i64 (M:Nat)] 238)) (by simp);have hb:=Blk.new (w1.alloc (Obj.cells #[.string s,.int .i64 0,.bool false] 292)) [.pointer (some ⟨w.heap.size+1,0,none⟩),.slice none 0 0,.int .i64 (M:Nat)] 238;rw [World.size_alloc,hs1] at hb;rw [hs1] at hr3;rw [hw3];exact ⟨hb,Row.nil _ _ _,hr3,by simp [Value.ownBlock],by simp [Value.ownBlock],by omega,by simp,hM65,by simp⟩
 rw [← hw3];have hU3:=hU1.then hU13;have hlt3:=hW3.lt;clear hw3 hU13 hU1 hW1 hs1;have HU:=Hi hU3;have hfp : ∀ k∈yV (w.heap.size+1+1) (w.heap.size+1) (.slice none 0 0),w.heap.size<k:=by intro k hk; simp [yV,Value.ownBlock] at hk; omega
 clear hU3;obtain ⟨bw,hbw⟩ : ∃ bw,bw=w.heap.size:=⟨_,rfl⟩;rw [← hbw] at hW3 hS3 hfp hlt3 ⊢;have HBW:=Hi hbw;clear hbw;go_loopg [] (8*s.size+1) (fun gg wr => ∃ g out a v,gg=g∧Hid (CP=qN s M (8*s.size+1) g out a)∧8*s.size<g+a∧SymsRel w3 wr (bw+1+1) (bw+1) (.slice none 0 0) v s a out M∧Blk wr bw [.int .i64 0] 29)
 case atStart=>exact ⟨_,[],0,_,rfl,HS,by omega,⟨hS3,.refl _ _,.refl _ _⟩,hW3⟩
 case round =>
  obtain ⟨g,out,a,v,hgg,HE,hg,hSt,hW⟩:=hrel;have hrd:=hSt.1.rd.2;clear HS hW3 hS3;obtain ⟨g,rfl⟩ : ∃ g',g=g'+1:=⟨g-1,by omega⟩;subst hgg;have hE:CP=(km s M (8*s.size+1) out a >>= zgV (qN s M (8*s.size+1) g)):=HE.out;clear HE;cases hb:km s M (8*s.size+1) out a with
  | error c =>
    have HE:=Hi (show CP = .error c by rw [hE,hb]; rfl);clear hE;(go_wp2_with fail);refine (zfT hSt.1 hs (by omega) hb).mono ?_;rintro e w4 ⟨rfl,hU4⟩;have hne:=hSt.2.2.ne hlt3 (show (Value.slice none 0 0).ownBlock≠some bw by simp [Value.ownBlock]);have hW4:=hW.upd hU4 (by simp only [yV,List.mem_cons,Option.mem_toList]; rintro (h | h | h)<;>first | omega | exact hne h);have hUw4:=of_upd HBW.out HU.out (zaA hSt.2.1 hSt.2.2 hU4) hfp;have hx:=hW4.cell 0 rfl;have hz:=hW4.frz 0;have HBL:w.heap.size≤bw:=(by rw [HBW.out]; exact Nat.le_refl _);refine leaves_cons (f:=174) (args := #[.pointer (some ⟨bw,0,none⟩)]) (by simp) (by simp [go_sem]) ?_;refine (QN ⟨bw,0,none⟩ _ (c:Nat) [] w4 hx hz).mono ?_;rintro e u' w'' ⟨rfl,rfl,rfl⟩;have hcell:(w4.setCell ⟨bw,0,none⟩ (.int .i64 (c:Nat))).cell? ⟨bw,0,none⟩=some (.int .i64 (c:Nat)):=(hW4.set 0 (.int .i64 (c:Nat))).cell 0 rfl;simp [Leaves,settle,results,Tryz.results111,go_sem,hcell];rw [HE.out];exact ⟨rfl,hUw4.setCell (.inr HBL) _⟩
  | ok q =>
    obtain ⟨⟨l,o⟩,a5⟩:=q;have hadv:=zb9 hb;have hE2:CP=if l=true then .ok (o,a5) else qN s M (8*s.size+1) g o a5:=(by rw [hE,hb]; rfl);clear hE;cases l with
    | true =>
      have HE:=Hi (show CP = .ok (o,a5) by rw [hE2]; rfl);clear hE2;(go_wp2_with fail);refine (zbx hSt.1 hs (by omega) hb).mono ?_;rintro e w4 ⟨rfl,v4,hS4,hU4,hT4⟩;have hne:=hSt.2.2.ne hlt3 (show (Value.slice none 0 0).ownBlock≠some bw by simp [Value.ownBlock]);have hW4:=hW.upd hU4 (by simp only [yV,List.mem_cons,Option.mem_toList]; rintro (h | h | h)<;>first | omega | exact hne h);have hUw4:=of_upd HBW.out HU.out (zaA hSt.2.1 hSt.2.2 hU4) hfp;have HBL:w.heap.size≤bw:=(by rw [HBW.out]; exact Nat.le_refl _);have hx:=hW4.cell 0 rfl;have hz:=hW4.frz 0;have hcA:=hS4.blk.all;have hcv:=ju (P:=Tryz.prog) w4.drew 97 9 5 Tryz.underlying97 Tryz.underlying5 Tryz.underlying9 (v:=v4) (n:=o.length) (l:=o) hS4.row.drew;have HT:=Hi (VZ (bw+1) w4.drew _ s a5 false hS4.rd hs);go_wp2;refine zh2 ?_
      go_region_law ((go_simp; go_at_call 177; refine HT.out.mono ?_; rintro e w5 ⟨rfl,rfl⟩))
      (all_goals go_wp2);all_goals (
       have hcell:(w4.setCell ⟨bw,0,none⟩ (.int .i64 0)).cell? ⟨bw,0,none⟩=some (.int .i64 0):=(hW4.set 0 (.int .i64 0)).cell 0 rfl;refine leaves_cons (f:=174) (args := #[.pointer (some ⟨bw,0,none⟩)]) (by simp) (by simp [go_sem]) ?_;refine (zbo ⟨bw,0,none⟩ _).mono ?_;rintro e u' w'' ⟨rfl,rfl,rfl⟩;simp [Leaves,settle,results,Tryz.results111,go_sem,hcell];rw [HE.out];exact ⟨rfl,(hUw4.setCell (.inr HBL) _).drew⟩)
    | false =>
      have HE:=Hi (show CP=qN s M (8*s.size+1) g o a5 by rw [hE2]; rfl);clear hE2;(go_wp2_with fail);refine (zbx hSt.1 hs (by omega) hb).mono ?_;rintro e w4 ⟨rfl,v4,hS4,hU4,hT4⟩;have hne:=hSt.2.2.ne hlt3 (show (Value.slice none 0 0).ownBlock≠some bw by simp [Value.ownBlock]);have hW4:=hW.upd hU4 (by simp only [yV,List.mem_cons,Option.mem_toList]; rintro (h | h | h)<;>first | omega | exact hne h);go_wp2;go_roundg g
      · exact ⟨g,o,a5,v4,rfl,HE,by omega,hSt.next hS4 hU4 hT4,hW4⟩
      · omega
end Go.Proofs.YtfkenhihcmmgkaaGreatDoor
namespace Go.Proofs.YtfkenhihcmmgkaaGreatDoor
def zp (c:Nat):Nat×Nat×Nat :=
 if c<128 then (1,0,0) else if 194≤c∧c≤223 then (2,128,191) else if c=224 then (3,160,191) else if c=237 then (3,128,159)
 else if 225≤c∧c≤239 then (3,128,191) else if c=240 then (4,144,191) else if 241≤c∧c≤243 then (4,128,191) else if c=244 then (4,128,143) else (0,0,0)
def qm (lo hi:Nat):Nat→List Nat→Bool
 | 0,_=>true
 | _+1,[]=>false
 | n+1,b::r=>decide (lo≤b)&&decide (b≤hi)&&qm 128 191 n r
def zdc:Nat→List Nat→Bool
 | 0,l=>l.isEmpty
 | _+1,[]=>true
 | f+1,c::r=>decide ((zp c).1≠0)&&qm (zp c).2.1 (zp c).2.2 ((zp c).1-1) r&&zdc f (r.drop ((zp c).1-1))
def jW (l:List Nat):Bool:=zdc l.length l
theorem Yh (c:Nat):(zp c).1≤4:=by
 unfold zp; repeat' split
 all_goals (dsimp only; omega)
theorem QT : ∀ (f:Nat) (l:List Nat),l.length≤f→zdc f l=zdc l.length l
 | 0,l,h=>by
   have:l=[]:=List.eq_nil_of_length_eq_zero (by omega);subst this; rfl
 | f+1,[],_=>rfl
 | f+1,c::r,h=>by
   have hr:r.length≤f:=(by rw [List.length_cons] at h; omega);have hd:(r.drop ((zp c).1-1)).length≤r.length:=(by rw [List.length_drop]; omega);show (decide ((zp c).1≠0)&&qm (zp c).2.1 (zp c).2.2 ((zp c).1-1) r&&zdc f (r.drop ((zp c).1-1)))=(decide ((zp c).1≠0)&&qm (zp c).2.1 (zp c).2.2 ((zp c).1-1) r&&zdc r.length (r.drop ((zp c).1-1)));rw [QT f _ (by omega),QT r.length _ hd]
 termination_by f _ _=>f
 decreasing_by all_goals (simp_wf; try (rw [List.length_cons] at *); omega)
theorem VX (c:Nat) (r:List Nat):jW (c::r)=(decide ((zp c).1≠0)&&qm (zp c).2.1 (zp c).2.2 ((zp c).1-1) r&&jW (r.drop ((zp c).1-1))):=by
 show (decide ((zp c).1≠0)&&qm (zp c).2.1 (zp c).2.2 ((zp c).1-1) r&&zdc r.length (r.drop ((zp c).1-1)))=_;rw [QT r.length _ (by rw [List.length_drop]; omega)];rfl
def ym (l:List Nat):Bool:=l.all (fun c=>!(decide (c<32)||decide (c=127)||decide (c=47)||decide (c=92)||decide (c=58)))&&decide (1≤l.length)&&decide (l.length≤60)&&decide (l≠[46])&&decide (l≠[46,46])&&jW l
end Go.Proofs.YtfkenhihcmmgkaaGreatDoor
namespace Go.Proofs.YtfkenhihcmmgkaaGreatDoor
open Go.RowKit
def zks (p:Nat×Nat×Nat):Value := .tuple #[.int .i64 (p.1:Nat),.int .u8 (p.2.1:Nat),.int .u8 (p.2.2:Nat)]
theorem zbI (s:ByteArray) (w:World) (h:0<s.size) (hs:s.size≤9223372036854775807):Calls Tryz.prog 282 #[.string s] w fun e w' =>
 e = .returned (zks (zp s[0].toNat))∧w=w':=by
 have hlt:=s[0].toNat_lt;have ways:(s[0].toNat<128)∨(128≤s[0].toNat∧s[0].toNat<194)∨(194≤s[0].toNat∧s[0].toNat≤223)∨(s[0].toNat=224)∨(225≤s[0].toNat∧s[0].toNat<237)∨(s[0].toNat=237)∨(238≤s[0].toNat∧s[0].toNat≤239)∨(s[0].toNat=240)∨(241≤s[0].toNat∧s[0].toNat≤243)∨(s[0].toNat=244)∨(245≤s[0].toNat):=by omega
 rcases ways with h0 | h0 | h0 | h0 | h0 | h0 | h0 | h0 | h0 | h0 | h0
 · have HV:Hid (zp s[0].toNat=(1,0,0)):=Hi (by
    unfold zp
    repeat' split
    all_goals first | rfl | (exfalso; omega))
   rw [HV.out];go_enter Tryz.func282,Tryz.ntmps282;go_wp2;all_goals first
    | (go_ret; exact ⟨rfl,rfl⟩)
    | (refine bodyPost_ret (results_tmp3 rfl _ _ _) rfl ⟨rfl,rfl⟩)
    | (exfalso; omega)
 · have HV:Hid (zp s[0].toNat=(0,0,0)):=Hi (by
    unfold zp
    repeat' split
    all_goals first | rfl | (exfalso; omega))
   rw [HV.out];go_enter Tryz.func282,Tryz.ntmps282;go_wp2;all_goals first
    | (go_ret; exact ⟨rfl,rfl⟩)
    | (refine bodyPost_ret (results_tmp3 rfl _ _ _) rfl ⟨rfl,rfl⟩)
    | (exfalso; omega)
 · have HV:Hid (zp s[0].toNat=(2,128,191)):=Hi (by
    unfold zp
    repeat' split
    all_goals first | rfl | (exfalso; omega))
   rw [HV.out];go_enter Tryz.func282,Tryz.ntmps282;go_wp2;all_goals first
    | (go_ret; exact ⟨rfl,rfl⟩)
    | (refine bodyPost_ret (results_tmp3 rfl _ _ _) rfl ⟨rfl,rfl⟩)
    | (exfalso; omega)
 · have HV:Hid (zp s[0].toNat=(3,160,191)):=Hi (by
    unfold zp
    repeat' split
    all_goals first | rfl | (exfalso; omega))
   rw [HV.out];go_enter Tryz.func282,Tryz.ntmps282;go_wp2;all_goals first
    | (go_ret; exact ⟨rfl,rfl⟩)
    | (refine bodyPost_ret (results_tmp3 rfl _ _ _) rfl ⟨rfl,rfl⟩)
    | (exfalso; omega)
 · have HV:Hid (zp s[0].toNat=(3,128,191)):=Hi (by
    unfold zp
    repeat' split
    all_goals first | rfl | (exfalso; omega))
   rw [HV.out];go_enter Tryz.func282,Tryz.ntmps282;go_wp2;all_goals first
    | (go_ret; exact ⟨rfl,rfl⟩)
    | (refine bodyPost_ret (results_tmp3 rfl _ _ _) rfl ⟨rfl,rfl⟩)
    | (exfalso; omega)
 · have HV:Hid (zp s[0].toNat=(3,128,159)):=Hi (by
    unfold zp
    repeat' split
    all_goals first | rfl | (exfalso; omega))
   rw [HV.out];go_enter Tryz.func282,Tryz.ntmps282;go_wp2;all_goals first
    | (go_ret; exact ⟨rfl,rfl⟩)
    | (refine bodyPost_ret (results_tmp3 rfl _ _ _) rfl ⟨rfl,rfl⟩)
    | (exfalso; omega)
 · have HV:Hid (zp s[0].toNat=(3,128,191)):=Hi (by
    unfold zp
    repeat' split
    all_goals first | rfl | (exfalso; omega))
   rw [HV.out];go_enter Tryz.func282,Tryz.ntmps282;go_wp2;all_goals first
    | (go_ret; exact ⟨rfl,rfl⟩)
    | (refine bodyPost_ret (results_tmp3 rfl _ _ _) rfl ⟨rfl,rfl⟩)
    | (exfalso; omega)
 · have HV:Hid (zp s[0].toNat=(4,144,191)):=Hi (by
    unfold zp
    repeat' split
    all_goals first | rfl | (exfalso; omega))
   rw [HV.out];go_enter Tryz.func282,Tryz.ntmps282;go_wp2;all_goals first
    | (go_ret; exact ⟨rfl,rfl⟩)
    | (refine bodyPost_ret (results_tmp3 rfl _ _ _) rfl ⟨rfl,rfl⟩)
    | (exfalso; omega)
 · have HV:Hid (zp s[0].toNat=(4,128,191)):=Hi (by
    unfold zp
    repeat' split
    all_goals first | rfl | (exfalso; omega))
   rw [HV.out];go_enter Tryz.func282,Tryz.ntmps282;go_wp2;all_goals first
    | (go_ret; exact ⟨rfl,rfl⟩)
    | (refine bodyPost_ret (results_tmp3 rfl _ _ _) rfl ⟨rfl,rfl⟩)
    | (exfalso; omega)
 · have HV:Hid (zp s[0].toNat=(4,128,143)):=Hi (by
    unfold zp
    repeat' split
    all_goals first | rfl | (exfalso; omega))
   rw [HV.out];go_enter Tryz.func282,Tryz.ntmps282;go_wp2;all_goals first
    | (go_ret; exact ⟨rfl,rfl⟩)
    | (refine bodyPost_ret (results_tmp3 rfl _ _ _) rfl ⟨rfl,rfl⟩)
    | (exfalso; omega)
 · have HV:Hid (zp s[0].toNat=(0,0,0)):=Hi (by
    unfold zp
    repeat' split
    all_goals first | rfl | (exfalso; omega))
   rw [HV.out];go_enter Tryz.func282,Tryz.ntmps282;go_wp2;all_goals first
    | (go_ret; exact ⟨rfl,rfl⟩)
    | (refine bodyPost_ret (results_tmp3 rfl _ _ _) rfl ⟨rfl,rfl⟩)
    | (exfalso; omega)
end Go.Proofs.YtfkenhihcmmgkaaGreatDoor
namespace Go.Proofs.YtfkenhihcmmgkaaGreatDoor
def zo:List Nat→List (List Nat)
 | []=>[[]]
 | c::r=>if c=47 then []::zo r else (c::(zo r).headD [])::(zo r).tail
theorem VJ (l:List Nat):zo l≠[]:=by
 cases l with
 | nil=>simp [zo]
 | cons c r=>unfold zo; split<;>simp
theorem jC (l:List Nat):zo l=(zo l).headD []::(zo l).tail:=by
 cases h:zo l with
 | nil=>exact absurd h (VJ l)
 | cons a b=>rfl
def vL (s:List Nat) (L:List (List Nat)):List (List Nat):=(s++L.headD [])::L.tail
theorem Vz (l:List Nat):vL [] (zo l)=zo l:=(jC l).symm
theorem zbn (s r:List Nat):vL s (zo (47::r))=s::vL [] (zo r):=by
 rw [Vz]; simp [vL,zo]
theorem zcq (s r:List Nat) (c:Nat) (h:c≠47):vL s (zo (c::r))=vL (s++[c]) (zo r):=by
 have e:zo (c::r)=(c::(zo r).headD [])::(zo r).tail:=by rw [zo,if_neg h]
 rw [e]; simp [vL]
theorem Yt : ∀ (l:List Nat),(zo l).length≤l.length+1
 | []=>by simp [zo]
 | c::r=>by
   have ih:=Yt r;unfold zo;split
   · simp; omega
   · simp [List.length_tail]; omega
theorem vo : ∀ (l:List Nat) (p:List Nat),p∈zo l → ∀ x∈p,x∈l
 | [],p,h,x,hx=>by simp [zo] at h; subst h; exact hx
 | c::r,p,h,x,hx=>by
   unfold zo at h;split at h
   · rcases List.mem_cons.1 h with rfl | h
     · simp at hx
     · exact List.mem_cons_of_mem _ (vo r p h x hx)
   · rcases List.mem_cons.1 h with rfl | h
     · rcases List.mem_cons.1 hx with rfl | hx
       · simp
       · refine List.mem_cons_of_mem _ (vo r ((zo r).headD []) ?_ x hx);rw [jC r]; simp
     · exact List.mem_cons_of_mem _ (vo r p (List.mem_of_mem_tail h) x hx)
theorem kg : ∀ (l:List Nat) (p:List Nat),p∈zo l→p.length≤l.length
 | [],p,h=>by simp [zo] at h; subst h; exact Nat.le_refl _
 | c::r,p,h=>by
   unfold zo at h;split at h
   · rcases List.mem_cons.1 h with rfl | h
     · exact Nat.zero_le _
     · have:=kg r p h; simp; omega
   · rcases List.mem_cons.1 h with rfl | h
     · have:=kg r ((zo r).headD []) (by rw [jC r]; simp); simp at *; omega
     · have:=kg r p (List.mem_of_mem_tail h); simp; omega
def Qj:List Nat:=[46,115,119,105,110,103,108,101]
def yq (l:List Nat):Bool:=decide (l.length≤200)&&decide ((zo l).headD []≠Qj)&&decide ((zo l).length≤12)&&(zo l).all ym
theorem Zp {l:List Nat} (h:200<l.length):yq l=false:=by unfold yq; rw [decide_eq_false (by omega)]; rfl
theorem YH {l:List Nat} (h:(zo l).headD []=Qj):yq l=false:=by unfold yq; rw [h]; simp
theorem Zn {l:List Nat} (h:12<(zo l).length):yq l=false:=by unfold yq; rw [decide_eq_false (by omega : ¬ (zo l).length≤12)]; simp
theorem Yp {l p:List Nat} (h:p∈zo l) (hp:ym p=false):yq l=false:=by
 unfold yq;have:(zo l).all ym=false:=by rw [List.all_eq_false]; exact ⟨p,h,by simp [hp]⟩
 rw [this]; simp
theorem XT {l:List Nat} (h1:l.length≤200) (h2:(zo l).headD []≠Qj) (h3:(zo l).length≤12) (h4 : ∀ p∈zo l,ym p=true):yq l=true:=by
 unfold yq;rw [decide_eq_true h1,decide_eq_true h2,decide_eq_true h3,List.all_eq_true.2 h4]; rfl
theorem Yf {l:List Nat} (h:yq l=true):l.length≤200:=by
 unfold yq at h; simp only [Bool.and_eq_true,decide_eq_true_eq] at h; exact h.1.1.1
end Go.Proofs.YtfkenhihcmmgkaaGreatDoor
namespace Go.Proofs.YtfkenhihcmmgkaaGreatDoor
open Go.RowKit
def Keep (ks:List Nat) (W W':World):Prop:=W.heap.size≤W'.heap.size ∧ ∀ k∈ks,W'.heap[k]? =W.heap[k]?
theorem Keep.refl (ks:List Nat) (W:World):Keep ks W W:=⟨Nat.le_refl _,fun _ _=>rfl⟩
theorem Keep.trans {ks:List Nat} {A B C:World} (h:Keep ks A B) (k:Keep ks B C):Keep ks A C:=⟨Nat.le_trans h.1 k.1,fun i hi=>(k.2 i hi).trans (h.2 i hi)⟩
theorem Keep.putObj {ks:List Nat} {W:World} {l:Nat} (o:Obj) (hl : ∀ k∈ks,k≠l):Keep ks W (W.putObj l o):=⟨by simp,fun k hk=>World.putObj_heap_other (hl k hk)⟩
theorem Keep.of_upd {ks fp:List Nat} {W W':World} (h:Upd fp W W') (hk : ∀ k∈ks,k<W.heap.size∧k∉fp):Keep ks W W':=⟨h.size,fun k hm=>h.block k (hk k hm).1 (hk k hm).2⟩
def Own2 (fp:List Nat) (A B:World):Prop:=Upd fp A B∧KeepsOthers A B
theorem Own2.refl (fp:List Nat) (A:World):Own2 fp A A:=⟨Upd.refl _ _,KeepsOthers.refl _⟩
theorem Own2.trans {fp:List Nat} {A B C:World} (h:Own2 fp A B) (k:Own2 fp B C):Own2 fp A C:=⟨h.1.then k.1,h.2.trans k.2⟩
theorem Blk.cellsOnly {w:World} {b:Nat} {cs:List Value} {t:TypeId} (h:Blk w b cs t) : ∀ o,w.heap[b]? =some o→o.isCells=true:=fun o ho=>by
 unfold Blk at h; rw [h] at ho; cases ho; rfl
theorem Row.cellsOnly {w:World} {e:TypeId} {size:Nat} {v:Value} {n:Nat} {xs:List Value} (h:Row w e size v n xs) : ∀ g,v.ownBlock=some g → ∀ o,w.heap[g]? =some o→o.isCells=true:=fun g hg o ho=>by
 rcases h.2 with ⟨rfl,rfl⟩ | ⟨g',cap,cur,rfl,hb,hh,_⟩
 · simp [Value.ownBlock] at hg
 · simp [Value.ownBlock] at hg; subst hg; rw [hh] at ho; cases ho; rfl
theorem Upd.others {fp:List Nat} {w w':World} (h:Upd fp w w') (hc : ∀ k,k∈fp → ∀ o,w.heap[k]? =some o→o.isCells=true):KeepsOthers w w' :=
 ⟨h.size,fun k o ho hn=>by
  by_cases hm:k∈fp
  · have:=hc k hm o ho; rw [this] at hn; cases hn
  · exact (h.block k (Array.getElem?_eq_some_iff.1 ho).1 hm).trans ho⟩
theorem Wn {fp fq:List Nat} {w w':World} (h:Upd fq w w') (hs : ∀ k∈fq,k∈fp) (hc : ∀ k,k∈fq → ∀ o,w.heap[k]? =some o→o.isCells=true):Own2 fp w w':=⟨h.mono fun k hk => .inl (hs k hk),h.others hc⟩
theorem qa {β:Type} (B:Nat) (fp:List Nat) (w0:World) (hB:w0.heap.size≤B):OwnFrom B (fun (_:β) W=>Upd fp w0 W):=fun _ W W' row hs hg hr =>
 hs.grown hg (fun k hk => .inr (by have:=(hr k hk).1; omega))
theorem zF {β:Type} (B b:Nat) (f:β→List Value) (t:TypeId):OwnFrom B (fun s W=>Blk W b (f s) t):=fun s W W' row hs hg hr =>
 Blk.grown hs hg (fun e=>by obtain ⟨_,o,ho,hc⟩:=hr b e; rw [Blk.cellsOnly hs o ho] at hc; cases hc)
theorem Row.ownF {w w':World} {e:TypeId} {size:Nat} {v:Value} {n:Nat} {xs:List Value} {row:Option Nat} {B:Nat} (h:Row w e size v n xs) (hg:w.grownBy w' row) (hr : ∀ r,row=some r→B≤r ∧ ∃ o:Obj,w.heap[r]? =some o∧o.isCells=false):Row w' e size v n xs :=
 h.upd ((Upd.refl row.toList w).grown hg (fun k hk => .inl (by simp [hk]))) (fun k hk hm=>by
  simp at hm; obtain ⟨_,o,ho,hc⟩:=hr k hm; rw [h.cellsOnly k hk o ho] at hc; cases hc)
def ziM {α:Type} (P:Program) (g:Nat) (lb:Array Value) (encs:α→Array Value) (fp ks:List Nat) (S Sp:List α→Prop) (N:Nat) (w:World):Prop :=
 ∀ (l:Nat) (J Jx:List α→World→Prop) (W:World),Upd [] w W→W.heap.size=w.heap.size+2→(∀ s A B,J s A→Own2 fp A B→J s B)→(∀ s A B,Jx s A→Own2 fp A B→Jx s B) →
  (∀ pre x W1,J pre W1→pre.length<N→(∀ k∈fp,k<W1.heap.size)→YieldAt Fence.wide 7 P l (encs x) W1 fun e W'=>(e = .returned (.bool true)∧J (pre++[x]) W'∧Keep ks W1 W')∨(e = .returned (.bool false)∧Jx (pre++[x]) W'))→J [] W →
  CallsIn Fence.wide 8 P g (#[.func (.yield l) #[] #[]]++lb) W fun e W'=>(∃ v,e = .returned v)∧((∃ xs,S xs∧J xs W')∨(∃ pre,Sp pre∧Jx pre W'))
section
variable {α:Type} {P:Program} {g:Operand} {ps:Array Tmp} {assign body:Code} {Q:Exit→Act→World→Prop} {a:Act} {w:World}
theorem zkA {gf:Nat} {lb:Array Value} (hg:a.eval g = .func (.func gf) #[] lb) (eg : ∀ args w,(callFunc gf args).run P w = .ok (.enter gf args) w)
 {encs:α→Array Value} {fp ks:List Nat} {S Sp:List α→Prop} {N:Nat} (hseq:ziM P gf lb encs fp ks S Sp N w) (hks : ∀ k∈ks,k≠w.heap.size+1) (hps : ∀ x,(encs x).size=ps.size)
 (I:List α→World→Prop) (Ix:Code→List α→World→Prop) (Mid:List α→α→Act→World→Prop)
 (hI:OwnFrom w.heap.size I) (hIx : ∀ c,OwnFrom w.heap.size (Ix c)) (hMid : ∀ pre x a',OwnFrom w.heap.size (fun (_:Unit) W=>Mid pre x a' W))
 (hIw : ∀ s A B,I s A→Own2 fp A B→I s B) (hIxw : ∀ c s A B,Ix c s A→Own2 fp A B→Ix c s B) (h0:I [] w)
 (hassign : ∀ (l:Nat) (pre:List α) (x:α) (W:World) (K:Act→World→Prop),I pre W→w.heap.size≤W.heap.size→(∀ k∈fp,k<W.heap.size)→(∀ a' W',KeepsFrom w.heap.size W W'→Keep ks W W'→Mid pre x a' W'→K a' W') →
  assign.wpIn (Fence.wide.inRound l) 7 P (Exit.then K (fun _ _ _=>False)) { tmps:=(ps.zip (encs x)).foldl (fun t (p,v)=>t.setIfInBounds p v) a.tmps,defers:=[] } W)
 (hbody : ∀ (l:Nat) (pre:List α) (x:α) (a':Act) (W:World),w.heap.size≤W.heap.size→Mid pre x a' W→pre.length<N →
  body.wpIn (Fence.wide.inRound l) 7 P (ownPostG w.heap.size (Keep ks) I Ix (pre++[x]) W) a' W)
 (hdone : ∀ (D:Nat) (xs:List α) (W:World),w.heap.size≤D→S xs→I xs W→W.heap[D]? =some (.deferred (some []))→Q .normal { a with defers := { target := .collected D,args := #[] }::a.defers } W)
 (hstop : ∀ (D:Nat) (c:Code) (pre:List α) (W:World),w.heap.size≤D→Sp pre→Ix c pre W→W.heap[D]? =some (.deferred (some []))→c.wpIn Fence.wide 9 P Q { a with defers := { target := .collected D,args := #[] }::a.defers } W) :
 (Code.rangeFunc g ps assign body).wpIn Fence.wide 9 P Q a w:=by
 refine wpIn_rangeFunc fun fn hfn=>?_
 let rc:LoopState→Option Code→Loop:=fun s p => { state:=s,pending:=p,fn,tmps:=a.tmps,params:=ps,assign,body,defers:=w.heap.size }
 let wD:=w.alloc (.deferred (some []))
 let wL:=wD.alloc (.loop (rc .ready none))
 have zD:wD.heap.size=w.heap.size+1:=by simp [wD]
 have recL:wL.heap[w.heap.size+1]? =some (.loop (rc .ready none)):=by
  have:=World.alloc_heap_new wD (.loop (rc .ready none)); rwa [zD] at this
 have defL:wL.heap[w.heap.size]? =some (.deferred (some [])):=(Below.heap_alloc wD _ _ (by omega)).trans (World.alloc_heap_new w _);have iL:I [] wL:=hI.alloc _ (hI.alloc _ h0);have uL:Upd [] w wL:=((Upd.refl [] w).alloc _).alloc _;refine ⟨w.heap.size+1,[{ target := .collected w.heap.size,args := #[] }],wL,{ target := .fn (.func gf) lb,args := #[.func (.yield (w.heap.size+1)) #[] #[]] },wL,gf,#[.func (.yield (w.heap.size+1)) #[] #[]]++lb,wL,run_enterLoop_outer _ _ _ _ _,by simp only [resolve,hg]; simp [go_sem],fun _ _=>trivial,by simp [invoke,go_sem,eg],(fun _=>by omega),?_⟩;have kept : ∀ {A B:World} {k:Nat} {o:Obj},Own2 fp A B→A.heap[k]? =some o→o.isCells=false→B.heap[k]? =some o:=fun hAB h hc=>hAB.2.same _ _ h hc;refine (hseq (w.heap.size+1)
  (fun s W=>I s W∧W.heap[w.heap.size+1]? =some (.loop (rc .ready none))∧W.heap[w.heap.size]? =some (.deferred (some [])))
  (fun s W => ∃ c,Ix c s W∧W.heap[w.heap.size+1]? =some (.loop (rc .done (some c)))∧W.heap[w.heap.size]? =some (.deferred (some [])))
  wL uL (by simp [wL,zD]) (fun s A B h hAB=>⟨hIw s A B h.1 hAB,kept hAB h.2.1 rfl,kept hAB h.2.2 rfl⟩)
  (fun s A B h hAB=>by obtain ⟨c,h1,h2,h3⟩:=h; exact ⟨c,hIxw c s A B h1 hAB,kept hAB h2 rfl,kept hAB h3 rfl⟩) ?round ⟨iL,recL,defL⟩).mono ?behind
 case round =>
  rintro pre x W ⟨hi,hr,hd⟩ hlen hfp;have hsz:w.heap.size≤W.heap.size:=by have:=(Array.getElem?_eq_some_iff.1 hr).1; omega
  refine ⟨fn,_,assign,body,run_yield (r:=rc .ready none) hr (hps x),roundIn_of_wpIn hfn (hassign _ pre x W _ hi hsz hfp fun a' Wa hkf hkp hmid=>?_)⟩;have hr1:=hkf.same _ _ (by omega) hr rfl;have hd1:=hkf.same _ _ (Nat.le_refl _) hd rfl;have hl1:w.heap.size+1<Wa.heap.size:=(Array.getElem?_eq_some_iff.1 hr1).1;refine ⟨_,run_beginRound hr1 rfl,?_⟩
  let Wb:=Wa.putObj (w.heap.size+1) (.loop (rc .busy none))
  have hr2:Wb.heap[w.heap.size+1]? =some (.loop (rc .busy none)):=World.putObj_heap_same hl1;have hd2:Wb.heap[w.heap.size]? =some (.deferred (some [])):=(World.putObj_heap_other (by omega)).trans hd1;have hkb:Keep ks W Wb:=hkp.trans (Keep.putObj _ fun k hk=>hks k hk);have hmb:Mid pre x a' Wb:=(hMid pre x a').putObj (s:=()) _ hmid (by omega) hr1 rfl;refine wpIn_mono (hbody _ pre x a' Wb (by show w.heap.size≤(Wa.putObj _ _).heap.size; simp; omega) hmb hlen) fun e a3 W3 hp=>?_;have fin : ∀ (j:Option Code),KeepsFrom w.heap.size Wb W3 →
   (Instr.endRound (w.heap.size+1) j).run P W3 = .ok (.bool j.isNone) (W3.putObj (w.heap.size+1) (.loop (rc (if j.isNone then .ready else .done) j)))∧W3.heap[w.heap.size+1]? =some (.loop (rc .busy none)) ∧
   (W3.putObj (w.heap.size+1) (.loop (rc (if j.isNone then .ready else .done) j))).heap[w.heap.size+1]? =some (.loop (rc (if j.isNone then .ready else .done) j)) ∧
   (W3.putObj (w.heap.size+1) (.loop (rc (if j.isNone then .ready else .done) j))).heap[w.heap.size]? =some (.deferred (some [])):=fun j hk=>by
   have hr3:=hk.same _ _ (by omega) hr2 rfl;exact ⟨run_endRound j hr3,hr3,World.putObj_heap_same (Array.getElem?_eq_some_iff.1 hr3).1,(World.putObj_heap_other (by omega)).trans (hk.same _ _ (Nat.le_refl _) hd2 rfl)⟩
  have out : ∀ (c:Code),KeepsFrom w.heap.size Wb W3∧Ix c (pre++[x]) W3 → ∃ v W4,(Instr.endRound (w.heap.size+1) (some c)).run P W3 = .ok v W4 ∧
   ((Ending.returned v = .returned (.bool true)∧(I (pre++[x]) W4∧W4.heap[w.heap.size+1]? =some (.loop (rc .ready none))∧W4.heap[w.heap.size]? =some (.deferred (some [])))∧Keep ks W W4) ∨
    (Ending.returned v = .returned (.bool false) ∧ ∃ c,Ix c (pre++[x]) W4∧W4.heap[w.heap.size+1]? =some (.loop (rc .done (some c)))∧W4.heap[w.heap.size]? =some (.deferred (some [])))):=fun c h=>by
   obtain ⟨hrun,hr3,hr4,hd4⟩:=fin (some c) h.1;exact ⟨_,_,hrun,.inr ⟨rfl,c,(hIx c).putObj _ h.2 (by omega) hr3 rfl,hr4,hd4⟩⟩
  cases e with
  | normal =>
    obtain ⟨hrun,hr3,hr4,hd4⟩:=fin none hp.1;exact ⟨_,_,hrun,.inl ⟨rfl,⟨hI.putObj _ hp.2.2 (by omega) hr3 rfl,hr4,hd4⟩,(hkb.trans hp.2.1).trans (Keep.putObj _ fun k hk=>hks k hk)⟩⟩
  | ret=>exact out .ret hp
  | exit id=>exact out (.exit id) hp
  | goto t=>exact out (.goto t) hp
  | panic ch=>exact hp.elim
  | outgrown=>exact hp.elim
 case behind =>
  rintro e W2 ⟨⟨v,rfl⟩,(⟨xs,hS,hi,hr,hd⟩ | ⟨pre,hSp,c,hi,hr,hd⟩)⟩
  · exact ⟨none,_,run_endLoop (r:=rc .ready none) hr (by simp [rc]),hdone _ xs _ (Nat.le_refl _) hS (hI.putObj _ hi (by omega) hr rfl) ((World.putObj_heap_other (by omega)).trans hd)⟩
  · exact ⟨some c,_,run_endLoop (r:=rc .done (some c)) hr (by simp [rc]),hstop _ c pre _ (Nat.le_refl _) hSp ((hIx c).putObj _ hi (by omega) hr rfl) ((World.putObj_heap_other (by omega)).trans hd)⟩
theorem zjC {gf:Nat} {lb:Array Value} (hg:a.eval g = .func (.func gf) #[] lb) (eg : ∀ args w,(callFunc gf args).run P w = .ok (.enter gf args) w)
 {encs:α→Array Value} {fp ks:List Nat} {S Sp:List α→Prop} {N:Nat} (hseq:ziM P gf lb encs fp ks S Sp N w) (hks : ∀ k∈ks,k≠w.heap.size+1) (hps : ∀ x,(encs x).size=ps.size)
 (I:List α→World→Prop) (Ix:Code→List α→World→Prop) (act:α→Act)
 (hI:OwnFrom w.heap.size I) (hIx : ∀ c,OwnFrom w.heap.size (Ix c)) (hIw : ∀ s A B,I s A→Own2 fp A B→I s B) (hIxw : ∀ c s A B,Ix c s A→Own2 fp A B→Ix c s B) (h0:I [] w)
 (hassign : ∀ (l:Nat) (x:α) (W:World) (K:Act→World→Prop),K (act x) W →
  assign.wpIn (Fence.wide.inRound l) 7 P (Exit.then K (fun _ _ _=>False)) { tmps:=(ps.zip (encs x)).foldl (fun t (p,v)=>t.setIfInBounds p v) a.tmps,defers:=[] } W)
 (hbody : ∀ (l:Nat) (pre:List α) (x:α) (W:World),w.heap.size≤W.heap.size→(∀ k∈fp,k<W.heap.size)→I pre W→pre.length<N →
  body.wpIn (Fence.wide.inRound l) 7 P (ownPostG w.heap.size (Keep ks) I Ix (pre++[x]) W) (act x) W)
 (hdone : ∀ (D:Nat) (xs:List α) (W:World),w.heap.size≤D→S xs→I xs W→W.heap[D]? =some (.deferred (some []))→Q .normal { a with defers := { target := .collected D,args := #[] }::a.defers } W)
 (hstop : ∀ (D:Nat) (c:Code) (pre:List α) (W:World),w.heap.size≤D→Sp pre→Ix c pre W→W.heap[D]? =some (.deferred (some []))→c.wpIn Fence.wide 9 P Q { a with defers := { target := .collected D,args := #[] }::a.defers } W) :
 (Code.rangeFunc g ps assign body).wpIn Fence.wide 9 P Q a w :=
 zkA hg eg hseq hks hps I Ix (fun pre x a' W=>(I pre W ∧ ∀ k∈fp,k<W.heap.size)∧a'=act x) hI hIx
  (fun pre x a' _ A B row hs hg hr=>⟨⟨hI pre A B row hs.1.1 hg hr,fun k hk=>Nat.lt_of_lt_of_le (hs.1.2 k hk) hg.size⟩,hs.2⟩) hIw hIxw h0
  (fun l pre x W K hi hsz hfp hK=>hassign l x W K (hK _ _ (KeepsFrom.refl _ _) (Keep.refl _ _) ⟨⟨hi,hfp⟩,rfl⟩))
  (fun l pre x a' W hsz hm hlt=>by obtain ⟨⟨h1,h2⟩,rfl⟩:=hm; exact hbody l pre x W hsz h2 h1 hlt) hdone hstop
end
end Go.Proofs.YtfkenhihcmmgkaaGreatDoor
namespace Go.Proofs.YtfkenhihcmmgkaaGreatDoor
open Go.RowKit Go.Shelf
attribute [local go_sem] Oper.semAt_some
def zY (l:List Nat):Nat:=(l.takeWhile (fun c=>decide (c≠47))).length
theorem zeA (l:List Nat):zY l≤l.length:=(List.takeWhile_prefix _).length_le
theorem vU (c:Nat) (r:List Nat):zY (c::r)=if c=47 then 0 else zY r+1:=by
 unfold zY;rw [List.takeWhile_cons];by_cases h:c=47<;>simp [h]
theorem kY : ∀ (l:List Nat),zY l<l.length→zo l=l.take (zY l)::zo (l.drop (zY l+1))
 | [],h=>by simp at h
 | c::r,h=>by
   rw [vU] at h ⊢;by_cases e:c=47
   · subst e; simp [zo]
   · rw [if_neg e] at h ⊢;have ih:=kY r (by rw [List.length_cons] at h; omega);have e2:zo (c::r)=(c::(zo r).headD [])::(zo r).tail:=(by rw [zo,if_neg e]);rw [e2,ih];simp
theorem vV : ∀ (l:List Nat),¬ zY l<l.length→zo l=[l]
 | [],_=>rfl
 | c::r,h=>by
   rw [vU] at h;by_cases e:c=47
   · rw [if_pos e] at h; simp at h
   · rw [if_neg e] at h;have ih:=vV r (by rw [List.length_cons] at h; omega);have e2:zo (c::r)=(c::(zo r).headD [])::(zo r).tail:=(by rw [zo,if_neg e]);rw [e2,ih];simp
theorem Wv (l:List Nat):(zo l).headD []=l.take (zY l):=by
 by_cases h:zY l<l.length
 · rw [kY l h]; rfl
 · rw [vV l h,List.headD_cons,List.take_of_length_le (by omega)]
theorem qj (L:List UInt8):Lib.indexByte L 47=if zY (L.map UInt8.toNat)<L.length then (zY (L.map UInt8.toNat):Int) else -1:=by
 induction L with
 | nil=>rfl
 | cons b l ih =>
   have hb:(b==47)=decide (b.toNat=47):=by
    rw [Bool.eq_iff_iff]; simp [← UInt8.toNat_inj]
   rw [List.map_cons,vU,Lib.indexByte,hb,ih];by_cases e:b.toNat=47
   · simp [e]
   · rw [if_neg (by simp [e]),if_neg e];by_cases h:zY (l.map UInt8.toNat)<l.length
     · have h1:(((zY (l.map UInt8.toNat):Nat):Int) == -1)=false:=(by rw [beq_eq_false_iff_ne]; omega);rw [if_pos h,h1,if_pos (show zY (l.map UInt8.toNat)+1<(b::l).length by rw [List.length_cons]; omega)]; simp
     · rw [if_neg h,if_neg (show ¬ zY (l.map UInt8.toNat)+1<(b::l).length by rw [List.length_cons]; omega)]; rfl
theorem ZV (s:ByteArray) (w:World):Calls Tryz.prog 315 #[.string s,.int .u8 47] w fun e w'=>e = .returned (.int .i64 (Lib.indexByte s.data.toList 47))∧w=w':=by
 go_enter Tryz.func315,Tryz.ntmps315;go_wp2;rw [run_callFunc_extern Tryz.func339 (by kernel_rfl) (by kernel_rfl) (by kernel_rfl) (e:=Extern.BytealgIndexByte.indexByte) (by kernel_rfl),Lib.run_indexByteString];simp only [Result.andThen];rw [Oper.upon_value];go_wp2;go_ret;exact ⟨rfl,rfl⟩
theorem vS (s:ByteArray) (w:World):Calls Tryz.prog 279 #[.string s,.string { data := #[47] }] w fun e w'=>e = .returned (.int .i64 (Lib.indexByte s.data.toList 47))∧w=w':=by
 cases hq:([47]==s.toList) with
 | true =>
   have e1:s.toList=[47]:=(beq_iff_eq.1 hq).symm;have HZ:=Hi (show Lib.indexByte s.data.toList 47=0 from by rw [ByteArray.toList_eq] at e1; rw [e1]; rfl);clear e1;go_enter Tryz.func279,Tryz.ntmps279;go_wp2;go_ret;exact ⟨by rw [HZ.out]; rfl,rfl⟩
 | false =>
   go_enter Tryz.func279,Tryz.ntmps279;go_wp2_with (go_at_call 315; refine (ZV _ _).mono ?_; rintro e w' ⟨rfl,rfl⟩)
   go_ret;exact ⟨rfl,rfl⟩
theorem Zt (s:ByteArray) (w:World):Calls Tryz.prog 245 #[.string s,.string { data := #[47] }] w fun e w'=>e = .returned (.int .i64 (Lib.indexByte s.data.toList 47))∧w=w':=by
 go_enter Tryz.func245,Tryz.ntmps245;go_wp2_with (go_at_call 279; refine (vS _ _).mono ?_; rintro e w' ⟨rfl,rfl⟩)
 go_ret;exact ⟨rfl,rfl⟩
theorem zcP (s:ByteArray) (w:World) (h:zY (zf s)<s.size):Calls Tryz.prog 279 #[.string s,.string { data := #[47] }] w fun e w'=>e = .returned (.int .i64 (zY (zf s):Nat))∧w=w' :=
 (vS s w).mono fun e w' ⟨h1,h2⟩=>⟨by rw [h1,qj]; unfold zf at h ⊢; rw [if_pos (by exact h)],h2⟩
theorem zeN (s:ByteArray) (w:World) (h : ¬ zY (zf s)<s.size):Calls Tryz.prog 279 #[.string s,.string { data := #[47] }] w fun e w'=>e = .returned (.int .i64 (-1))∧w=w' :=
 (vS s w).mono fun e w' ⟨h1,h2⟩=>⟨by rw [h1,qj]; unfold zf at h; rw [if_neg (by exact h)],h2⟩
theorem zeq (s:ByteArray) (w:World) (h:zY (zf s)<s.size):Calls Tryz.prog 245 #[.string s,.string { data := #[47] }] w fun e w'=>e = .returned (.int .i64 (zY (zf s):Nat))∧w=w' :=
 (Zt s w).mono fun e w' ⟨h1,h2⟩=>⟨by rw [h1,qj]; unfold zf at h ⊢; rw [if_pos (by exact h)],h2⟩
theorem zhD (s:ByteArray) (w:World) (h : ¬ zY (zf s)<s.size):Calls Tryz.prog 245 #[.string s,.string { data := #[47] }] w fun e w'=>e = .returned (.int .i64 (-1))∧w=w' :=
 (Zt s w).mono fun e w' ⟨h1,h2⟩=>⟨by rw [h1,qj]; unfold zf at h; rw [if_neg (by exact h)],h2⟩
theorem zW (s:ByteArray) (a b:Nat):zf (s.extract a b)=((zf s).drop a).take (b-a):=by
 simp [zf,ByteArray.data_extract,List.map_take,List.map_drop]
theorem jD (s:ByteArray) (n:Nat):s.extract 0 n=zg ((zf s).take n):=by
 rw [← zE (s.extract 0 n),zW]; simp
theorem zgF (s:ByteArray) (w:World) (hs:s.size≤9223372036854775807):Calls Tryz.prog 240 #[.string s,.string { data := #[47] }] w fun e w'=>(∃ r b,e = .returned (.tuple #[.string (zg ((zo (zf s)).headD [])),.string r,.bool b]))∧Upd [] w w':=by
 have HT:=Hi (Wv (zf s));have hl:=zi s;have h0:=zeA (zf s);by_cases h:zY (zf s)<s.size
 · have HY:=Hi (fun w=>zcP s w h);have HE:=Hi (jD s (zY (zf s)));generalize zY (zf s)=f at *;clear hl h0;go_enter Tryz.func240,Tryz.ntmps240;go_wp2_with (go_at_call 279; refine (HY.out _).mono ?_; rintro e w' ⟨rfl,rfl⟩)
   go_quiet (fail)
   go_wp2
   go_ret3
   exact ⟨⟨s.extract (f+1) s.size,true,by rw [HT.out,← HE.out]; rfl⟩,(Upd.refl _ _).drewN _⟩
 · have HY:=Hi (fun w=>zeN s w h);have HE:=Hi (jD s (zY (zf s)));have e1:(zf s).take (zY (zf s))=zf s:=List.take_of_length_le (by omega);rw [e1] at HT;clear hl h0 HE e1 h;go_enter Tryz.func240,Tryz.ntmps240;go_wp2_with (go_at_call 279; refine (HY.out _).mono ?_; rintro e w' ⟨rfl,rfl⟩)
   go_ret3
   exact ⟨⟨{ data := #[] },false,by rw [HT.out,zE]; rfl⟩,Upd.refl _ _⟩
theorem ziy (s:ByteArray) (w:World) (hs:s.size≤9223372036854775807):Calls Tryz.prog 200 #[.string s,.string { data := #[47] }] w fun e w'=>(∃ r b,e = .returned (.tuple #[.string (zg ((zo (zf s)).headD [])),.string r,.bool b]))∧Upd [] w w':=by
 have HC:=Hi (fun w=>zgF s w hs);generalize (zo (zf s)).headD []=hd at *;go_enter Tryz.func200,Tryz.ntmps200;go_wp2_with (go_at_call 240; refine (HC.out _).mono ?_; rintro e w' ⟨⟨r,b,rfl⟩,hU⟩)
 go_ret3
 exact ⟨⟨r,b,rfl⟩,hU⟩
end Go.Proofs.YtfkenhihcmmgkaaGreatDoor
