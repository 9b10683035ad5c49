/- Packages local, swingleref19: Path. -/
import Derived.Test.YtfkenhihcmmgkaaGreatDoorQAM
import Derived.RowKit
set_option linter.unusedVariables false
set_option linter.unusedSimpArgs false
set_option linter.unusedSectionVars false
set_option maxRecDepth 100000
set_option maxHeartbeats 12800000
namespace Go.Proofs.YtfkenhihcmmgkaaGreatDoor
open Go.RowKit
def qY (l:List Nat):Bool:=decide (l.drop (l.length-1)=[47])
theorem XZ {l:List Nat} (h:qY l=true):1≤l.length:=by
 unfold qY at h;have:=congrArg List.length (of_decide_eq_true h);rw [List.length_drop] at this; simp at this; omega
theorem zaU (s:ByteArray) (h:0<s.size):qY (zf s)=decide (s[s.size-1].toNat=47):=by
 unfold qY;rw [zi,List.drop_eq_getElem_cons (by rw [zi]; omega),xd s _ (by omega),List.drop_of_length_le (by rw [zi]; omega)];simp
theorem zhN (s:ByteArray) (h:s.size=0):qY (zf s)=false:=by
 unfold qY;have:zf s=[]:=List.eq_nil_of_length_eq_zero (by rw [zi]; exact h);rw [this]; rfl
def zV (l:List Nat):List Nat×Nat×Bool :=
 if qY l=true then (if yq (l.take (l.length-1))=true then (l.take (l.length-1),2,true) else ([],0,false))
 else if yq l=true∨l=Qj then (l,1,true) else ([],0,false)
def ZJ (p:List Nat×Nat×Bool):Value := .tuple #[.string (zg p.1),.int .i64 (p.2.1:Nat),.bool p.2.2]
theorem zba {l:List Nat} (h : ∀ x∈l,x<256) : ∀ x∈(zV l).1,x<256:=by
 unfold zV
 repeat' split
 all_goals first
  | exact fun x hx=>h x (List.mem_of_mem_take hx)
  | exact h
  | (intro x hx; simp at hx)
theorem zcT (s:ByteArray) (w:World) (hs:s.size≤1000000):Calls Tryz.prog 265 #[.string s,.string { data := #[47] }] w fun e w'=>e = .returned (.bool (qY (zf s)))∧w=w':=by
 by_cases h0:s.size=0
 · have HE:=Hi (zhN s h0);go_enter Tryz.func265,Tryz.ntmps265;go_wp2;go_ret;exact ⟨by rw [HE.out]; rfl,rfl⟩
 · have h1:1≤s.size:=(by omega);have HT:Hid (((s.extract (s.size-1) s.size).toList==[47])=qY (zf s)):=Hi (by
    rw [xQ,vj]; unfold qY; rw [zi]; rfl)
   cases hb:qY (zf s) with
   | true =>
     have t1:=HT.out.trans hb;clear hb HT;go_enter Tryz.func265,Tryz.ntmps265;go_wp2;go_ret;exact ⟨rfl,rfl⟩
   | false =>
     have t1:=HT.out.trans hb;clear hb HT;go_enter Tryz.func265,Tryz.ntmps265;go_wp2;go_ret;exact ⟨rfl,rfl⟩
def zdi (s:ByteArray):Value := .tuple #[.string (if qY (zf s)=true then s.extract 0 (s.size-1) else s),.bool (qY (zf s))]
theorem zaE {s:ByteArray} (h:qY (zf s)=true):zdi s = .tuple #[.string (s.extract 0 (s.size-1)),.bool true]:=by unfold zdi; rw [h]; rfl
theorem zdP {s:ByteArray} (h:qY (zf s)=false):zdi s = .tuple #[.string s,.bool false]:=by unfold zdi; rw [h]; rfl
theorem zad (s:ByteArray) (w:World) (hs:s.size≤1000000):Calls Tryz.prog 228 #[.string s,.string { data := #[47] }] w fun e w'=>e = .returned (zdi s)∧w=w':=by
 have HH:=Hi (fun w=>zcT s w hs);cases hb:qY (zf s) with
 | true =>
   have h1:1≤s.size:=(by have:=XZ hb; rw [zi] at this; exact this);have HV:=Hi (zaE hb);rw [hb] at HH;clear hb;go_enter Tryz.func228,Tryz.ntmps228;go_wp2_with (go_at_call 265; refine (HH.out _).mono ?_; rintro e w' ⟨rfl,rfl⟩)
   go_ret2
   exact ⟨by rw [HV.out]; rfl,rfl⟩
 | false =>
   have HV:=Hi (zdP hb);rw [hb] at HH;clear hb;go_enter Tryz.func228,Tryz.ntmps228;go_wp2_with (go_at_call 265; refine (HH.out _).mono ?_; rintro e w' ⟨rfl,rfl⟩)
   go_ret2
   exact ⟨by rw [HV.out]; rfl,rfl⟩
theorem zdk (s:ByteArray) (w:World) (hs:s.size≤1000000):Calls Tryz.prog 170 #[.string s,.string { data := #[47] }] w fun e w'=>e = .returned (zdi s)∧w=w':=by
 have HH:=Hi (fun w=>zad s w hs);have HV:Hid (zdi s = .tuple #[.string (if qY (zf s)=true then s.extract 0 (s.size-1) else s),.bool (qY (zf s))]):=Hi rfl;rw [HV.out] at HH;generalize (if qY (zf s)=true then s.extract 0 (s.size-1) else s)=r at *;generalize qY (zf s)=b at *;go_enter Tryz.func170,Tryz.ntmps170;go_wp2_with (go_at_call 228; refine (HH.out _).mono ?_; rintro e w' ⟨rfl,rfl⟩)
 go_ret2
 exact ⟨by rw [HV.out]; rfl,rfl⟩
theorem VI {l:List Nat} (h:qY l=true) (hr:yq (l.take (l.length-1))=true):zV l=(l.take (l.length-1),2,true):=by unfold zV; rw [if_pos h,if_pos hr]
theorem Xv {l:List Nat} (h:qY l=true) (hr:yq (l.take (l.length-1))=false):zV l=([],0,false):=by unfold zV; rw [if_pos h,hr]; rfl
theorem vw {l:List Nat} (h:qY l=false) (hr:yq l=true∨l=Qj):zV l=(l,1,true):=by unfold zV; rw [h,if_neg (by simp),if_pos hr]
theorem YL {l:List Nat} (h:qY l=false) (hr : ¬ (yq l=true∨l=Qj)):zV l=([],0,false):=by unfold zV; rw [h,if_neg (by simp),if_neg hr]
theorem xZ {l a:List Nat} {k:Nat} {b:Bool} (h:zV l=(a,k,b)):ZJ (zV l) = .tuple #[.string (zg a),.int .i64 (k:Nat),.bool b]:=by rw [h]; rfl
theorem zjm (s:ByteArray):(s.toList==[46,115,119,105,110,103,108,101])=decide (zf s=Qj):=xQ s _
theorem Xi (s:ByteArray) (w:World) (hs:s.size≤1000000):Calls Tryz.prog 101 #[.string s] w fun e w'=>e = .returned (ZJ (zV (zf s)))∧Upd [] w w':=by
 have HC:=Hi (fun w=>zdk s w hs);have HR:=Hi (fun w=>Jt s w (by omega));have HQ:=Hi (zjm s);cases hb:qY (zf s) with
 | true =>
   have h1:1≤s.size:=(by have:=XZ hb; rw [zi] at this; exact this);rw [zaE hb] at HC;have HX:=Hi (fun w=>Jt (s.extract 0 (s.size-1)) w (by rw [ByteArray.size_extract]; omega));have he:zf (s.extract 0 (s.size-1))=(zf s).take ((zf s).length-1):=(by rw [zW,List.drop_zero,zi]; rfl);rw [he] at HX;have HST:Hid (s.extract 0 (s.size-1)=zg ((zf s).take ((zf s).length-1))):=Hi (by rw [jD,zi]);clear he HR;cases hr:yq ((zf s).take ((zf s).length-1)) with
   | true =>
     have HV:=Hi (xZ (VI hb hr));rw [hr] at HX;clear hb hr;go_enter Tryz.func101,Tryz.ntmps101;(go_wp2_with fail);refine (HC.out _).mono ?_;rintro e w1 ⟨rfl,rfl⟩;(go_wp2_with fail);refine (HX.out _).mono ?_;rintro e w2 ⟨rfl,hU⟩;go_wp2
     go_ret3
     exact ⟨by rw [HV.out,← HST.out]; rfl,hU⟩
   | false =>
     have HV:=Hi (xZ (Xv hb hr));rw [hr] at HX;clear hb hr;go_enter Tryz.func101,Tryz.ntmps101;(go_wp2_with fail);refine (HC.out _).mono ?_;rintro e w1 ⟨rfl,rfl⟩;(go_wp2_with fail);refine (HX.out _).mono ?_;rintro e w2 ⟨rfl,hU⟩;go_wp2
     go_ret3
     exact ⟨by rw [HV.out]; rfl,hU⟩
 | false =>
   rw [zdP hb] at HC;have HST:=Hi (zE s);cases hr:yq (zf s) with
   | true =>
     have HV:=Hi (xZ (vw hb (.inl hr)));rw [hr] at HR;clear hb hr;go_enter Tryz.func101,Tryz.ntmps101;(go_wp2_with fail);refine (HC.out _).mono ?_;rintro e w1 ⟨rfl,rfl⟩;(go_wp2_with fail);refine (HR.out _).mono ?_;rintro e w2 ⟨rfl,hU⟩;go_wp2
     go_ret3
     exact ⟨by rw [HV.out,HST.out]; rfl,hU⟩
   | false =>
     by_cases hq:zf s=Qj
     · have t1:=HQ.out.trans (decide_eq_true hq);have HV:=Hi (xZ (vw hb (.inr hq)));rw [hr] at HR;clear hb hr hq HQ;go_enter Tryz.func101,Tryz.ntmps101;(go_wp2_with fail);refine (HC.out _).mono ?_;rintro e w1 ⟨rfl,rfl⟩;(go_wp2_with fail);refine (HR.out _).mono ?_;rintro e w2 ⟨rfl,hU⟩;go_wp2_with (go_at_call 40; refine (qz _).mono ?_; rintro e w' ⟨rfl,rfl⟩)
       go_ret3
       exact ⟨by rw [HV.out,HST.out]; rfl,hU⟩
     · have t1:=HQ.out.trans (decide_eq_false hq);have HV:=Hi (xZ (YL hb (by rw [hr]; simp [hq])));rw [hr] at HR;clear hb hr hq HQ;go_enter Tryz.func101,Tryz.ntmps101;(go_wp2_with fail);refine (HC.out _).mono ?_;rintro e w1 ⟨rfl,rfl⟩;(go_wp2_with fail);refine (HR.out _).mono ?_;rintro e w2 ⟨rfl,hU⟩;go_wp2_with (go_at_call 40; refine (qz _).mono ?_; rintro e w' ⟨rfl,rfl⟩)
       go_ret3
       exact ⟨by rw [HV.out]; rfl,hU⟩
theorem VQ (s:ByteArray) (w:World) (hs:s.size≤1100000):Calls Tryz.prog 54 #[.string s] w fun e w'=>e = .returned (ZJ (zV (zf s)))∧Upd [] w w':=by
 have HR:=Hi (fun w=>VT s w (by omega));have HQ:=Hi (zjm s);cases hb:qY (zf s) with
 | true =>
   have h1:1≤s.size:=(by have:=XZ hb; rw [zi] at this; exact this);have h47:s[s.size-1].toNat=47:=(by rw [zaU s (by omega)] at hb; exact of_decide_eq_true hb);have t47:((s[s.size-1].toNat:Int)==47)=true:=(by rw [beq_iff_eq]; omega);have HX:=Hi (fun w=>VT (s.extract 0 (s.size-1)) w (by rw [ByteArray.size_extract]; omega));have he:zf (s.extract 0 (s.size-1))=(zf s).take ((zf s).length-1):=(by rw [zW,List.drop_zero,zi]; rfl);rw [he] at HX;have HST:Hid (s.extract 0 (s.size-1)=zg ((zf s).take ((zf s).length-1))):=Hi (by rw [jD,zi]);clear he HR h47;cases hr:yq ((zf s).take ((zf s).length-1)) with
   | true =>
     have HV:=Hi (xZ (VI hb hr));rw [hr] at HX;clear hb hr;go_enter Tryz.func54,Tryz.ntmps54;(go_wp2_with fail);refine (HX.out _).mono ?_;rintro e w2 ⟨rfl,hU⟩;go_wp2
     go_ret3
     exact ⟨by rw [HV.out,← HST.out]; rfl,hU⟩
   | false =>
     have HV:=Hi (xZ (Xv hb hr));rw [hr] at HX;clear hb hr;go_enter Tryz.func54,Tryz.ntmps54;(go_wp2_with fail);refine (HX.out _).mono ?_;rintro e w2 ⟨rfl,hU⟩;go_wp2
     go_ret3
     exact ⟨by rw [HV.out]; rfl,hU⟩
 | false =>
   have HST:=Hi (zE s);have ways:s.size=0∨(1≤s.size∧Hid (∃ h:s.size-1<s.size,(((s[s.size-1]'h).toNat:Int)==47)=false)):=by
    by_cases h0:s.size=0
    · exact .inl h0
    · refine .inr ⟨by omega,Hi ⟨by omega,?_⟩⟩;rw [zaU s (by omega)] at hb;have:=of_decide_eq_false hb;rw [beq_eq_false_iff_ne]; omega
   cases hr:yq (zf s) with
   | true =>
     have HV:=Hi (xZ (vw hb (.inl hr)));rw [hr] at HR;clear hb hr;rcases ways with h0 | ⟨h1,hw⟩
     · go_enter Tryz.func54,Tryz.ntmps54;(go_wp2_with fail);refine (HR.out _).mono ?_;rintro e w2 ⟨rfl,hU⟩;go_wp2
       go_ret3
       exact ⟨by rw [HV.out,HST.out]; rfl,hU⟩
     · obtain ⟨hw1,t47⟩:=hw.out;go_enter Tryz.func54,Tryz.ntmps54;(go_wp2_with fail);refine (HR.out _).mono ?_;rintro e w2 ⟨rfl,hU⟩;go_wp2
       go_ret3
       exact ⟨by rw [HV.out,HST.out]; rfl,hU⟩
   | false =>
     by_cases hq:zf s=Qj
     · have t1:=HQ.out.trans (decide_eq_true hq);have HV:=Hi (xZ (vw hb (.inr hq)));rw [hr] at HR;have hz:s.size=8:=(by rw [← zi s,hq]; rfl);have HZ:=Hi hz;have h1:1≤s.size:=(by omega);obtain ⟨hw1,t47⟩ : ∃ h:s.size-1<s.size,(((s[s.size-1]'h).toNat:Int)==47)=false:=by
        rcases ways with h0 | ⟨_,hw⟩
        · omega
        · exact hw.out
       clear hb hr hq HQ ways hz;go_enter Tryz.func54,Tryz.ntmps54;(go_wp2_with fail);refine (HR.out _).mono ?_;rintro e w2 ⟨rfl,hU⟩;go_wp2
       go_ret3
       exact ⟨by rw [HV.out,HST.out]; rfl,hU⟩
     · have t1:=HQ.out.trans (decide_eq_false hq);have HV:=Hi (xZ (YL hb (by rw [hr]; simp [hq])));rw [hr] at HR;clear hb hr hq HQ;rcases ways with h0 | ⟨h1,hw⟩
       · go_enter Tryz.func54,Tryz.ntmps54;(go_wp2_with fail);refine (HR.out _).mono ?_;rintro e w2 ⟨rfl,hU⟩;go_wp2
         go_ret3
         exact ⟨by rw [HV.out]; rfl,hU⟩
       · obtain ⟨hw1,t47⟩:=hw.out;go_enter Tryz.func54,Tryz.ntmps54;(go_wp2_with fail);refine (HR.out _).mono ?_;rintro e w2 ⟨rfl,hU⟩;go_wp2
         go_ret3
         exact ⟨by rw [HV.out]; rfl,hU⟩
theorem jA (t f k b:Nat) (w:World) (hb:w.cell? ⟨b,0,none⟩=some (.int .u32 (t:Nat))) (ht:t<4294967296) (hf:f≤25) (hk:k≤7) :
 Calls Tryz.prog 250 #[.int .i64 (f:Nat),.int .i64 (k:Nat),.pointer (some ⟨b,0,none⟩)] w fun e w'=>e = .returned (.int .i64 (t/2^f%2^k:Nat)) ∧ ∃ n,w'=w.drewN n:=by
 go_enter Tryz.func250,Tryz.ntmps250;go_wp2
 go_quiet (fail)
 go_wp2;go_returns;exact ⟨by
  show Ending.returned (.int .i64 (wrap64 (bits BinOp.and IntKind.u32 ((t:Int)/2^f) ((2^k-1)%4294967296))))=_;rw [zhA t f k ht hk,zcd _ (Nat.lt_of_lt_of_le (Nat.mod_lt _ (Nat.two_pow_pos k)) (Nat.le_trans (Nat.pow_le_pow_right (by omega) hk) (by omega)))],_,rfl⟩
def vO (t:Nat):List Value:=[.int .i64 (1980+(t:Int)/33554432%128),.int .i64 ((t:Int)/2097152%16),.int .i64 ((t:Int)/65536%32),.int .i64 ((t:Int)/2048%32),.int .i64 ((t:Int)/32%64),.int .i64 (2*((t:Int)%32))]
theorem zj2:(Tryz.prog.info? 271).map (·.size)=some 6:=by kernel_rfl
theorem zjx:(Tryz.prog.info? 163).map (·.size)=some 6:=by kernel_rfl
theorem zdg (t:Nat) (w:World) (ht:t<4294967296) :
 Calls Tryz.prog 217 #[.int .u32 (t:Nat)] w fun e w'=>e = .returned (.agg (vO t).toArray)∧Upd [] w w':=by
 go_enter Tryz.func217,Tryz.ntmps217;go_upto_region 2 with fail
 have hT:=(Blk.new w [.int .u32 (t:Nat)] 24).alloc (Obj.cells #[.int .i64 0,.int .i64 0,.int .i64 0,.int .i64 0,.int .i64 0,.int .i64 0] 271);have hR:=Blk.new (w.alloc (Obj.cells #[.int .u32 (t:Nat)] 24)) [.int .i64 0,.int .i64 0,.int .i64 0,.int .i64 0,.int .i64 0,.int .i64 0] 271;have hU:Upd [] w ((w.alloc (Obj.cells #[.int .u32 (t:Nat)] 24)).alloc (Obj.cells #[.int .i64 0,.int .i64 0,.int .i64 0,.int .i64 0,.int .i64 0,.int .i64 0] 271)):=((Upd.refl [] w).alloc _).alloc _;rw [World.size_alloc] at hR;change Code.wp _ _ _ _ ((w.alloc (Obj.cells #[.int .u32 (t:Nat)] 24)).alloc (Obj.cells #[.int .i64 0,.int .i64 0,.int .i64 0,.int .i64 0,.int .i64 0,.int .i64 0] 271));generalize (w.alloc (Obj.cells #[.int .u32 (t:Nat)] 24)).alloc (Obj.cells #[.int .i64 0,.int .i64 0,.int .i64 0,.int .i64 0,.int .i64 0,.int .i64 0] 271)=w2 at *;have HC:=Hi (hT.cell 0 rfl);have HR:=Hi hR;clear hT hR;go_wp2_with fail
 refine (jA t 25 7 w.heap.size _ (by exact HC.out) ht (by omega) (by omega)).mono ?_;rintro e w3 ⟨rfl,k0,rfl⟩;go_wp2_with fail
 refine (jA t 21 4 w.heap.size _ (by exact HC.out) ht (by omega) (by omega)).mono ?_;rintro e w3 ⟨rfl,k1,rfl⟩;go_wp2_with fail
 refine (jA t 16 5 w.heap.size _ (by exact HC.out) ht (by omega) (by omega)).mono ?_;rintro e w3 ⟨rfl,k2,rfl⟩;go_wp2_with fail
 refine (jA t 11 5 w.heap.size _ (by exact HC.out) ht (by omega) (by omega)).mono ?_;rintro e w3 ⟨rfl,k3,rfl⟩;go_wp2_with fail
 refine (jA t 5 6 w.heap.size _ (by exact HC.out) ht (by omega) (by omega)).mono ?_;rintro e w3 ⟨rfl,k4,rfl⟩;go_wp2_with fail
 refine (jA t 0 5 w.heap.size _ (by exact HC.out) ht (by omega) (by omega)).mono ?_;rintro e w3 ⟨rfl,k5,rfl⟩;have rA:=HR.out.all;have fA:=HR.out.frz;go_wp2;have hB:=(((((((HR.out.drewN (k0+k1+k2+k3+k4+k5)).set 0 (.int .i64 (1980+(t:Int)/33554432%128))).set 1 (.int .i64 ((t:Int)/2097152%16))).set 2 (.int .i64 ((t:Int)/65536%32))).set 3 (.int .i64 ((t:Int)/2048%32))).set 4 (.int .i64 ((t:Int)/32%64))).set 5 (.int .i64 (2*((t:Int)%32))));refine bodyPost_ret (v := .agg (vO t).toArray) (results_cell_row rfl _ _ (w.heap.size+1) 271 (vO t).toArray (0,0) _ (by simp) (hB) Tryz.underlying271 rfl (by rw [zj2]; rfl)) (by simp) ⟨rfl,?_⟩;exact (((((((hU.drewN _).setCell (.inr (by simp)) _).setCell (.inr (by simp)) _).setCell (.inr (by simp)) _).setCell (.inr (by simp)) _).setCell (.inr (by simp)) _).setCell (.inr (by simp)) _)
theorem jw (a b:Int) (w:World):Calls Tryz.prog 251 #[.int .i64 a,.int .i64 b] w fun e w'=>e = .returned (.bool (decide (0≤a)&&decide (a<b)))∧w=w':=by
 by_cases h:0≤a
 · have t1:decide (0≤a)=true:=decide_eq_true h;go_enter Tryz.func251,Tryz.ntmps251;go_wp2;go_returns;exact ⟨by simp [t1],rfl⟩
 · have t1:decide (0≤a)=false:=decide_eq_false h;go_enter Tryz.func251,Tryz.ntmps251;go_wp2;go_returns;exact ⟨by simp [t1],rfl⟩
def Qu (y:Int):Bool:=decide (y%4=0)&&decide (y≠2100)
def qG (y m:Int):Int:=if m<1∨12<m then 0 else if m=2 then (if Qu y=true then 29 else 28) else if m=4∨m=6∨m=9∨m=11 then 30 else 31
theorem zep (y:Int) (w:World) (hy:1980≤y) (hy2:y≤2107):Calls Tryz.prog 290 #[.int .i64 y] w fun e w'=>e = .returned (.bool (Qu y))∧w=w':=by
 have h0:(0:Int)≤y:=by omega
 by_cases h:y%4=0
 · have t1:(y%4==0)=true:=(by simp [h]);have HB:=Hi (show Qu y=(y != 2100) from by unfold Qu; rw [decide_eq_true h]; by_cases h2:y=2100<;>simp [h2]);clear h;go_enter Tryz.func290,Tryz.ntmps290;go_wp2;go_returns;exact ⟨by rw [HB.out]; rfl,rfl⟩
 · have t1:(y%4==0)=false:=(by simp [h]);have HB:=Hi (show Qu y=false from by unfold Qu; rw [decide_eq_false h]; rfl);clear h;go_enter Tryz.func290,Tryz.ntmps290;go_wp2;go_returns;exact ⟨by rw [HB.out]; rfl,rfl⟩
theorem zex (y m:Int) (w:World) (hy:1980≤y) (hy2:y≤2107) (hm0:0≤m) (hm:m≤15):Calls Tryz.prog 252 #[.int .i64 y,.int .i64 m] w fun e w'=>e = .returned (.int .i64 (qG y m))∧Upd [] w w':=by
 have t1:decide (y<1980)=false:=decide_eq_false (by omega);have t2:decide (2107<y)=false:=decide_eq_false (by omega);have HL:=Hi (fun w'=>zep y w' hy hy2);by_cases h2:m=2
 · subst h2;cases hb:Qu y with
   | true =>
     have HB:=Hi (show qG y 2=29 from by unfold qG; rw [hb]; rfl);rw [hb] at HL;go_enter Tryz.func252,Tryz.ntmps252;(go_wp2_with fail);refine (HL.out _).mono ?_;rintro e w1 ⟨rfl,rfl⟩;go_wp2;go_returns;exact ⟨by rw [HB.out]; rfl,(Upd.refl _ _).alloc _⟩
   | false =>
     have HB:=Hi (show qG y 2=28 from by unfold qG; rw [hb]; rfl);rw [hb] at HL;go_enter Tryz.func252,Tryz.ntmps252;(go_wp2_with fail);refine (HL.out _).mono ?_;rintro e w1 ⟨rfl,rfl⟩;go_wp2;go_returns;exact ⟨by rw [HB.out]; rfl,(Upd.refl _ _).alloc _⟩
 · clear HL;rcases (by omega:m=0∨m=1∨m=2∨m=3∨m=4∨m=5∨m=6∨m=7∨m=8∨m=9∨m=10∨m=11∨m=12∨m=13∨m=14∨m=15) with rfl | rfl | rfl | rfl | rfl | rfl | rfl | rfl | rfl | rfl | rfl | rfl | rfl | rfl | rfl | rfl;all_goals first
    | (exact absurd rfl h2)
    | (clear h2
       go_enter Tryz.func252,Tryz.ntmps252;go_wp2;go_returns
       first | exact ⟨rfl,(Upd.refl _ _).alloc _⟩ | exact ⟨rfl,.refl _ _⟩)
theorem zey (y m:Int) (w:World) (hy:1980≤y) (hy2:y≤2107) (hm0:0≤m) (hm:m≤15):Calls Tryz.prog 169 #[.int .i64 y,.int .i64 m] w fun e w'=>e = .returned (.int .i64 (qG y m))∧w=w':=by
 have t1:decide (y<1980)=false:=decide_eq_false (by omega);have t2:decide (2107<y)=false:=decide_eq_false (by omega);have h0:(0:Int)≤y:=by omega
 by_cases h2:m=2
 · subst h2;by_cases h4:y%4=0
   · have t3:(y%4==0)=true:=(by simp [h4]);by_cases h5:y=2100
     · have HB:=Hi (show qG y 2=28 from by subst h5; rfl);have t4:(y != 2100)=false:=(by simp [h5]);clear h4 h5;go_enter Tryz.func169,Tryz.ntmps169;go_wp2;go_returns;exact ⟨by rw [HB.out]; rfl,rfl⟩
     · have HB:=Hi (show qG y 2=29 from by unfold qG Qu; simp [h4,h5]);have t4:(y != 2100)=true:=(by simp [h5]);clear h4 h5;go_enter Tryz.func169,Tryz.ntmps169;go_wp2;go_returns;exact ⟨by rw [HB.out]; rfl,rfl⟩
   · have t3:(y%4==0)=false:=(by simp [h4]);have HB:=Hi (show qG y 2=28 from by unfold qG Qu; simp [h4]);clear h4;go_enter Tryz.func169,Tryz.ntmps169;go_wp2;go_returns;exact ⟨by rw [HB.out]; rfl,rfl⟩
 · rcases (by omega:m=0∨m=1∨m=2∨m=3∨m=4∨m=5∨m=6∨m=7∨m=8∨m=9∨m=10∨m=11∨m=12∨m=13∨m=14∨m=15) with rfl | rfl | rfl | rfl | rfl | rfl | rfl | rfl | rfl | rfl | rfl | rfl | rfl | rfl | rfl | rfl;all_goals first
    | (exact absurd rfl h2)
    | (clear h2
       go_enter Tryz.func169,Tryz.ntmps169;go_wp2;go_returns;exact ⟨rfl,rfl⟩)
end Go.Proofs.YtfkenhihcmmgkaaGreatDoor
namespace Go.Proofs.YtfkenhihcmmgkaaGreatDoor
theorem yC {P:Program} {md:Region.Mode} {ops:Array Oper} {Q:Exit→Act→World→Prop} {S:World→Prop} {i:Nat} {oi:Oper} {d:Option Tmp} {v:Value} {fuel:Nat} {listed:Array Bool} {a:Act} {w:World} (hi:ops[i]? =some oi) (hd:oi.dst=d)
 (hs:Region.noSelect ops=true) (hf:Region.free md ops listed i=true) (hr:(Region.ready md ops listed).contains i=true)
 (hQ : ∀ c a w,Q (.panic c) (a.put d v) w→Q (.panic c) a w) (hw:Region.wanted oi (yielded ops a.tmps)=true) (hy : ∀ w,S w→(execOp a.eval oi).run P w = .ok (.value v) w) (hS:S w)
 (h:wpAnyH P md ops Q S fuel (listed.setIfInBounds i true) (a.put d v) w):wpAnyH P md ops Q S (fuel+1) listed a w:=by
 subst hd;exact wpAnyH_take hi hs hf hr hQ (Or.inl ⟨hw,hy⟩) hS h
theorem zg9 {P:Program} {md:Region.Mode} {ops:Array Oper} {Q:Exit→Act→World→Prop} {S:World→Prop} {i:Nat} {oi:Oper} {d:Option Tmp} {fuel:Nat} {listed:Array Bool} {a:Act} {w:World} (hi:ops[i]? =some oi) (hd:oi.dst=d)
 (hs:Region.noSelect ops=true) (hf:Region.free md ops listed i=true) (hr:(Region.ready md ops listed).contains i=true)
 (hQ : ∀ c a w,Q (.panic c) (a.put d undef) w→Q (.panic c) a w) (hw:Region.wanted oi (yielded ops a.tmps)=false) (hS:S w)
 (h:wpAnyH P md ops Q S fuel (listed.setIfInBounds i true) (a.put d undef) w):wpAnyH P md ops Q S (fuel+1) listed a w:=by
 subst hd;exact wpAnyH_take hi hs hf hr hQ (Or.inr ⟨hw,rfl⟩) hS h
end Go.Proofs.YtfkenhihcmmgkaaGreatDoor
namespace Go.Proofs.YtfkenhihcmmgkaaGreatDoor
open Go.RowKit
theorem hdT {P:Program} {md:Region.Mode} {ops:Array Oper} {Q:Exit→Act→World→Prop} {S:World→Prop} {oi:Oper} {v:Value} {fuel:Nat} {listed:Array Bool} {a:Act} {w:World} {G:Prop} (i:Nat) (d:Option Tmp) (h:G)
 (hi:ops[i]? =some oi:=by rfl) (hd:oi.dst=d:=by rfl)
 (hy : ∀ w,S w→(execOp a.eval oi).run P w = .ok (.value v) w:=by intro w hSw; (try dsimp only at hSw); go_simp; try with_reducible rfl)
 (hs:Region.noSelect ops=true:=by kernel_rfl) (hf:Region.free md ops listed i=true:=by kernel_rfl) (hr:(Region.ready md ops listed).contains i=true:=by kernel_rfl)
 (hQ : ∀ c a w,Q (.panic c) (a.put d v) w→Q (.panic c) a w:=by exact fun _ _ _ h=>h) (hw:Region.wanted oi (yielded ops a.tmps)=true:=by rfl) (hS:S w:=by assumption)
 (hn:wpAnyH P md ops Q S fuel (listed.setIfInBounds i true) (a.put d v) w=G:=by (try simp only [Act.put,List.setIfInBounds_toArray,List.set_cons_zero,List.set_cons_succ]); exact rfl):wpAnyH P md ops Q S (fuel+1) listed a w :=
 yC hi hd hs hf hr hQ hw hy hS (hn▸h)
theorem hdK {P:Program} {md:Region.Mode} {ops:Array Oper} {Q:Exit→Act→World→Prop} {S:World→Prop} {oi:Oper} {fuel:Nat} {listed:Array Bool} {a:Act} {w:World} {G:Prop} (i:Nat) (d:Option Tmp) (h:G)
 (hi:ops[i]? =some oi:=by rfl) (hd:oi.dst=d:=by rfl)
 (hs:Region.noSelect ops=true:=by kernel_rfl) (hf:Region.free md ops listed i=true:=by kernel_rfl) (hr:(Region.ready md ops listed).contains i=true:=by kernel_rfl)
 (hQ : ∀ c a w,Q (.panic c) (a.put d undef) w→Q (.panic c) a w:=by exact fun _ _ _ h=>h) (hw:Region.wanted oi (yielded ops a.tmps)=false:=by rfl) (hS:S w:=by assumption)
 (hn:wpAnyH P md ops Q S fuel (listed.setIfInBounds i true) (a.put d undef) w=G:=by (try simp only [Act.put,List.setIfInBounds_toArray,List.set_cons_zero,List.set_cons_succ]); exact rfl):wpAnyH P md ops Q S (fuel+1) listed a w :=
 zg9 hi hd hs hf hr hQ hw hS (hn▸h)
theorem hdN {X G:Prop} (h:G) (hn:X=G:=by (try simp only [Act.put,List.setIfInBounds_toArray,List.set_cons_zero,List.set_cons_succ]); exact rfl):X:=hn▸h
theorem hdO {P:Program} {md:Region.Mode} {ops:Array Oper} {Q:Exit→Act→World→Prop} {S:World→Prop} {o:Oper} {fuel:Nat} {listed:Array Bool} {a:Act} {w:World} (i:Nat)
 (h : ∀ K':Act→World→Prop,Shut (∀ a w,S w→(S w→wpAnyH P md ops Q S fuel (listed.setIfInBounds i true) a w)→K' a w)→if Region.wanted o (yielded ops a.tmps)=true then Oper.wp P o a w K' Q else K' (a.put o.dst undef) w)
 (ho:ops[i]? =some o:=by rfl) (hr:Region.ready md ops listed=[i]:=by kernel_rfl):wpAnyH P md ops Q S (fuel+1) listed a w :=
 wpAnyH_ready hr (by simp) (AllReadyH.cons ho h AllReadyH.nil)
end Go.Proofs.YtfkenhihcmmgkaaGreatDoor
