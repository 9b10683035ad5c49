/- Packages local, swingleref19: Path. -/
import Derived.Test.YtigjingielnaoaaGreatDoorQAD
import Derived.Test.YtigjingielnaoaaGreatDoorQAC
import Derived.Deep.RegionHeld3
import Derived.RowKit
set_option linter.unusedVariables false
set_option linter.unusedSimpArgs false
set_option linter.unusedSectionVars false
namespace Go.Proofs.YtigjingielnaoaaGreatDoor
open Go.RowKit
def qx (l:List Nat):Bool:=decide (l.drop (l.length-1)=[47])
theorem Zu {l:List Nat} (h:qx l=true):1≤l.length:=by
 unfold qx at h
 have:=congrArg List.length (of_decide_eq_true h)
 rw [List.length_drop] at this; simp at this; omega
theorem Kd (s:ByteArray) (h:0<s.size):qx (ze s)=decide (s[s.size-1].toNat=47):=by
 unfold qx
 rw [zg,List.drop_eq_getElem_cons (by rw [zg]; omega),yE s _ (by omega),List.drop_of_length_le (by rw [zg]; omega)]
 simp
theorem zdd (s:ByteArray) (h:s.size=0):qx (ze s)=false:=by
 unfold qx
 have:ze s=[]:=List.eq_nil_of_length_eq_zero (by rw [zg]; exact h)
 rw [this]; rfl
def zv (l:List Nat):List Nat×Nat×Bool :=
 if qx l=true then (if yl (l.take (l.length-1))=true then (l.take (l.length-1),2,true) else ([],0,false))
 else if yl l=true∨l=vE then (l,1,true) else ([],0,false)
def jq (p:List Nat×Nat×Bool):Value := .tuple #[.string (zf p.1),.int .i64 (p.2.1:Nat),.bool p.2.2]
theorem YW {l:List Nat} (h : ∀ x∈l,x<256) : ∀ x∈(zv l).1,x<256:=by
 unfold zv
 repeat' split
 all_goals first
  | exact fun x hx=>h x (List.mem_of_mem_take hx)
  | exact h
  | (intro x hx; simp at hx)
set_option maxRecDepth 100000 in
theorem Wf (s:ByteArray) (w:World) (hs:s.size≤1000000):Calls Tryz.prog 227 #[.string s,.string { data := #[47] }] w fun e w'=>e = .returned (.bool (qx (ze s)))∧w=w':=by
 by_cases h0:s.size=0
 · have HE:=Lib.hid (zdd s h0)
   go_enter Tryz.func227,Tryz.ntmps227
   go_wp2
   go_ret
   exact ⟨by rw [HE.out]; rfl,rfl⟩
 · have h1:1≤s.size:=by omega
   have HT:Hid (((s.extract (s.size-1) s.size).toList==[47])=qx (ze s)):=Lib.hid (by
    rw [yT,jU]; unfold qx; rw [zg]; rfl)
   cases hb:qx (ze s) with
   | true =>
     have t1:=HT.out.trans hb
     clear hb HT
     go_enter Tryz.func227,Tryz.ntmps227
     go_wp2
     go_ret
     exact ⟨rfl,rfl⟩
   | false =>
     have t1:=HT.out.trans hb
     clear hb HT
     go_enter Tryz.func227,Tryz.ntmps227
     go_wp2
     go_ret
     exact ⟨rfl,rfl⟩
def Wd (s:ByteArray):Value := .tuple #[.string (if qx (ze s)=true then s.extract 0 (s.size-1) else s),.bool (qx (ze s))]
theorem Vi {s:ByteArray} (h:qx (ze s)=true):Wd s = .tuple #[.string (s.extract 0 (s.size-1)),.bool true]:=by unfold Wd; rw [h]; rfl
theorem WJ {s:ByteArray} (h:qx (ze s)=false):Wd s = .tuple #[.string s,.bool false]:=by unfold Wd; rw [h]; rfl
theorem VI (s:ByteArray) (w:World) (hs:s.size≤1000000):Calls Tryz.prog 202 #[.string s,.string { data := #[47] }] w fun e w'=>e = .returned (Wd s)∧w=w':=by
 have HH:=Lib.hid (fun w=>Wf s w hs)
 cases hb:qx (ze s) with
 | true =>
   have h1:1≤s.size:=by have:=Zu hb; rw [zg] at this; exact this
   have HV:=Lib.hid (Vi hb)
   rw [hb] at HH
   clear hb
   go_enter Tryz.func202,Tryz.ntmps202
   go_wp2_with (go_at_call 227; refine (HH.out _).mono ?_; rintro e w' ⟨rfl,rfl⟩)
   go_ret2
   exact ⟨by rw [HV.out]; rfl,rfl⟩
 | false =>
   have HV:=Lib.hid (WJ hb)
   rw [hb] at HH
   clear hb
   go_enter Tryz.func202,Tryz.ntmps202
   go_wp2_with (go_at_call 227; refine (HH.out _).mono ?_; rintro e w' ⟨rfl,rfl⟩)
   go_ret2
   exact ⟨by rw [HV.out]; rfl,rfl⟩
theorem KX (s:ByteArray) (w:World) (hs:s.size≤1000000):Calls Tryz.prog 169 #[.string s,.string { data := #[47] }] w fun e w'=>e = .returned (Wd s)∧w=w':=by
 have HH:=Lib.hid (fun w=>VI s w hs)
 have HV:Hid (Wd s = .tuple #[.string (if qx (ze s)=true then s.extract 0 (s.size-1) else s),.bool (qx (ze s))]):=Lib.hid rfl
 rw [HV.out] at HH
 generalize (if qx (ze s)=true then s.extract 0 (s.size-1) else s)=r at *
 generalize qx (ze s)=b at *
 go_enter Tryz.func169,Tryz.ntmps169
 go_wp2_with (go_at_call 202; refine (HH.out _).mono ?_; rintro e w' ⟨rfl,rfl⟩)
 go_ret2
 exact ⟨by rw [HV.out]; rfl,rfl⟩
theorem XF {l:List Nat} (h:qx l=true) (hr:yl (l.take (l.length-1))=true):zv l=(l.take (l.length-1),2,true):=by unfold zv; rw [if_pos h,if_pos hr]
theorem QD {l:List Nat} (h:qx l=true) (hr:yl (l.take (l.length-1))=false):zv l=([],0,false):=by unfold zv; rw [if_pos h,hr]; rfl
theorem jS {l:List Nat} (h:qx l=false) (hr:yl l=true∨l=vE):zv l=(l,1,true):=by unfold zv; rw [h,if_neg (by simp),if_pos hr]
theorem Qq {l:List Nat} (h:qx l=false) (hr : ¬ (yl l=true∨l=vE)):zv l=([],0,false):=by unfold zv; rw [h,if_neg (by simp),if_neg hr]
theorem xN {l a:List Nat} {k:Nat} {b:Bool} (h:zv l=(a,k,b)):jq (zv l) = .tuple #[.string (zf a),.int .i64 (k:Nat),.bool b]:=by rw [h]; rfl
theorem zel (s:ByteArray):(s.toList==[46,115,119,105,110,103,108,101])=decide (ze s=vE):=yT s _
set_option maxRecDepth 100000 in
set_option maxHeartbeats 4000000 in
theorem Zc (s:ByteArray) (w:World) (hs:s.size≤1000000):Calls Tryz.prog 121 #[.string s] w fun e w'=>e = .returned (jq (zv (ze s)))∧Upd [] w w':=by
 have HC:=Lib.hid (fun w=>KX s w hs)
 have HR:=Lib.hid (fun w=>vg s w (by omega))
 have HQ:=Lib.hid (zel s)
 cases hb:qx (ze s) with
 | true =>
   have h1:1≤s.size:=by have:=Zu hb; rw [zg] at this; exact this
   rw [Vi hb] at HC
   have HX:=Lib.hid (fun w=>vg (s.extract 0 (s.size-1)) w (by rw [ByteArray.size_extract]; omega))
   have he:ze (s.extract 0 (s.size-1))=(ze s).take ((ze s).length-1):=by rw [zr,List.drop_zero,zg]; rfl
   rw [he] at HX
   have HST:Hid (s.extract 0 (s.size-1)=zf ((ze s).take ((ze s).length-1))):=Lib.hid (by rw [jc,zg])
   clear he HR
   cases hr:yl ((ze s).take ((ze s).length-1)) with
   | true =>
     have HV:=Lib.hid (xN (XF hb hr))
     rw [hr] at HX
     clear hb hr
     go_enter Tryz.func121,Tryz.ntmps121
     go_wp2_with fail
     refine (HC.out _).mono ?_
     rintro e w1 ⟨rfl,rfl⟩
     go_wp2_with fail
     refine (HX.out _).mono ?_
     rintro e w2 ⟨rfl,hU⟩
     go_wp2
     go_ret3
     exact ⟨by rw [HV.out,← HST.out]; rfl,hU⟩
   | false =>
     have HV:=Lib.hid (xN (QD hb hr))
     rw [hr] at HX
     clear hb hr
     go_enter Tryz.func121,Tryz.ntmps121
     go_wp2_with fail
     refine (HC.out _).mono ?_
     rintro e w1 ⟨rfl,rfl⟩
     go_wp2_with fail
     refine (HX.out _).mono ?_
     rintro e w2 ⟨rfl,hU⟩
     go_wp2
     go_ret3
     exact ⟨by rw [HV.out]; rfl,hU⟩
 | false =>
   rw [WJ hb] at HC
   have HST:=Lib.hid (zw s)
   cases hr:yl (ze s) with
   | true =>
     have HV:=Lib.hid (xN (jS hb (.inl hr)))
     rw [hr] at HR
     clear hb hr
     go_enter Tryz.func121,Tryz.ntmps121
     go_wp2_with fail
     refine (HC.out _).mono ?_
     rintro e w1 ⟨rfl,rfl⟩
     go_wp2_with fail
     refine (HR.out _).mono ?_
     rintro e w2 ⟨rfl,hU⟩
     go_wp2
     go_ret3
     exact ⟨by rw [HV.out,HST.out]; rfl,hU⟩
   | false =>
     by_cases hq:ze s=vE
     · have t1:=HQ.out.trans (decide_eq_true hq)
       have HV:=Lib.hid (xN (jS hb (.inr hq)))
       rw [hr] at HR
       clear hb hr hq HQ
       go_enter Tryz.func121,Tryz.ntmps121
       go_wp2_with fail
       refine (HC.out _).mono ?_
       rintro e w1 ⟨rfl,rfl⟩
       go_wp2_with fail
       refine (HR.out _).mono ?_
       rintro e w2 ⟨rfl,hU⟩
       go_wp2_with (go_at_call 104; refine (qO _).mono ?_; rintro e w' ⟨rfl,rfl⟩)
       go_ret3
       exact ⟨by rw [HV.out,HST.out]; rfl,hU⟩
     · have t1:=HQ.out.trans (decide_eq_false hq)
       have HV:=Lib.hid (xN (Qq hb (by rw [hr]; simp [hq])))
       rw [hr] at HR
       clear hb hr hq HQ
       go_enter Tryz.func121,Tryz.ntmps121
       go_wp2_with fail
       refine (HC.out _).mono ?_
       rintro e w1 ⟨rfl,rfl⟩
       go_wp2_with fail
       refine (HR.out _).mono ?_
       rintro e w2 ⟨rfl,hU⟩
       go_wp2_with (go_at_call 104; refine (qO _).mono ?_; rintro e w' ⟨rfl,rfl⟩)
       go_ret3
       exact ⟨by rw [HV.out]; rfl,hU⟩
set_option maxRecDepth 100000 in
set_option maxHeartbeats 4000000 in
theorem qm (s:ByteArray) (w:World) (hs:s.size≤1100000):Calls Tryz.prog 92 #[.string s] w fun e w'=>e = .returned (jq (zv (ze s)))∧Upd [] w w':=by
 have HR:=Lib.hid (fun w=>Xa s w (by omega))
 have HQ:=Lib.hid (zel s)
 cases hb:qx (ze s) with
 | true =>
   have h1:1≤s.size:=by have:=Zu hb; rw [zg] at this; exact this
   have h47:s[s.size-1].toNat=47:=by rw [Kd s (by omega)] at hb; exact of_decide_eq_true hb
   have t47:((s[s.size-1].toNat:Int)==47)=true:=by rw [beq_iff_eq]; omega
   have HX:=Lib.hid (fun w=>Xa (s.extract 0 (s.size-1)) w (by rw [ByteArray.size_extract]; omega))
   have he:ze (s.extract 0 (s.size-1))=(ze s).take ((ze s).length-1):=by rw [zr,List.drop_zero,zg]; rfl
   rw [he] at HX
   have HST:Hid (s.extract 0 (s.size-1)=zf ((ze s).take ((ze s).length-1))):=Lib.hid (by rw [jc,zg])
   clear he HR h47
   cases hr:yl ((ze s).take ((ze s).length-1)) with
   | true =>
     have HV:=Lib.hid (xN (XF hb hr))
     rw [hr] at HX
     clear hb hr
     go_enter Tryz.func92,Tryz.ntmps92
     go_wp2_with fail
     refine (HX.out _).mono ?_
     rintro e w2 ⟨rfl,hU⟩
     go_wp2
     go_ret3
     exact ⟨by rw [HV.out,← HST.out]; rfl,hU⟩
   | false =>
     have HV:=Lib.hid (xN (QD hb hr))
     rw [hr] at HX
     clear hb hr
     go_enter Tryz.func92,Tryz.ntmps92
     go_wp2_with fail
     refine (HX.out _).mono ?_
     rintro e w2 ⟨rfl,hU⟩
     go_wp2
     go_ret3
     exact ⟨by rw [HV.out]; rfl,hU⟩
 | false =>
   have HST:=Lib.hid (zw s)
   have ways:s.size=0∨(1≤s.size∧Hid (∃ h:s.size-1<s.size,(((s[s.size-1]'h).toNat:Int)==47)=false)):=by
    by_cases h0:s.size=0
    · exact .inl h0
    · refine .inr ⟨by omega,Lib.hid ⟨by omega,?_⟩⟩
      rw [Kd s (by omega)] at hb
      have:=of_decide_eq_false hb
      rw [beq_eq_false_iff_ne]; omega
   cases hr:yl (ze s) with
   | true =>
     have HV:=Lib.hid (xN (jS hb (.inl hr)))
     rw [hr] at HR
     clear hb hr
     rcases ways with h0 | ⟨h1,hw⟩
     · go_enter Tryz.func92,Tryz.ntmps92
       go_wp2_with fail
       refine (HR.out _).mono ?_
       rintro e w2 ⟨rfl,hU⟩
       go_wp2
       go_ret3
       exact ⟨by rw [HV.out,HST.out]; rfl,hU⟩
     · obtain ⟨hw1,t47⟩:=hw.out
       go_enter Tryz.func92,Tryz.ntmps92
       go_wp2_with fail
       refine (HR.out _).mono ?_
       rintro e w2 ⟨rfl,hU⟩
       go_wp2
       go_ret3
       exact ⟨by rw [HV.out,HST.out]; rfl,hU⟩
   | false =>
     by_cases hq:ze s=vE
     · have t1:=HQ.out.trans (decide_eq_true hq)
       have HV:=Lib.hid (xN (jS hb (.inr hq)))
       rw [hr] at HR
       have hz:s.size=8:=by rw [← zg s,hq]; rfl
       have HZ:=Lib.hid hz
       have h1:1≤s.size:=by omega
       obtain ⟨hw1,t47⟩ : ∃ h:s.size-1<s.size,(((s[s.size-1]'h).toNat:Int)==47)=false:=by
        rcases ways with h0 | ⟨_,hw⟩
        · omega
        · exact hw.out
       clear hb hr hq HQ ways hz
       go_enter Tryz.func92,Tryz.ntmps92
       go_wp2_with fail
       refine (HR.out _).mono ?_
       rintro e w2 ⟨rfl,hU⟩
       go_wp2
       go_ret3
       exact ⟨by rw [HV.out,HST.out]; rfl,hU⟩
     · have t1:=HQ.out.trans (decide_eq_false hq)
       have HV:=Lib.hid (xN (Qq hb (by rw [hr]; simp [hq])))
       rw [hr] at HR
       clear hb hr hq HQ
       rcases ways with h0 | ⟨h1,hw⟩
       · go_enter Tryz.func92,Tryz.ntmps92
         go_wp2_with fail
         refine (HR.out _).mono ?_
         rintro e w2 ⟨rfl,hU⟩
         go_wp2
         go_ret3
         exact ⟨by rw [HV.out]; rfl,hU⟩
       · obtain ⟨hw1,t47⟩:=hw.out
         go_enter Tryz.func92,Tryz.ntmps92
         go_wp2_with fail
         refine (HR.out _).mono ?_
         rintro e w2 ⟨rfl,hU⟩
         go_wp2
         go_ret3
         exact ⟨by rw [HV.out]; rfl,hU⟩
end Go.Proofs.YtigjingielnaoaaGreatDoor
namespace Go.Proofs.YtigjingielnaoaaGreatDoor
open Go.RowKit
set_option maxRecDepth 100000 in
set_option maxHeartbeats 1600000 in
theorem qP (t f k b:Nat) (w:World) (hb:w.cell? ⟨b,0,none⟩=some (.int .u32 (t:Nat))) (ht:t<4294967296) (hf:f≤25) (hk:k≤7) :
 Calls Tryz.prog 192 #[.int .i64 (f:Nat),.int .i64 (k:Nat),.pointer (some ⟨b,0,none⟩)] w fun e w'=>e = .returned (.int .i64 (t/2^f%2^k:Nat)) ∧ ∃ n,w'=w.drewN n:=by
 go_enter Tryz.func192,Tryz.ntmps192
 go_wp2
 go_quiet (fail)
 go_wp2
 go_returns
 exact ⟨by
  show Ending.returned (.int .i64 (wrap64 (bits BinOp.and IntKind.u32 ((t:Int)/2^f) ((2^k-1)%4294967296))))=_
  rw [zc3 t f k ht hk,WC _ (Nat.lt_of_lt_of_le (Nat.mod_lt _ (Nat.two_pow_pos k)) (Nat.le_trans (Nat.pow_le_pow_right (by omega) hk) (by omega)))],_,rfl⟩
end Go.Proofs.YtigjingielnaoaaGreatDoor
namespace Go.Proofs.YtigjingielnaoaaGreatDoor
open Go.RowKit
def qi (t:Nat):List Value:=[.int .i64 (1980+(t:Int)/33554432%128),.int .i64 ((t:Int)/2097152%16),.int .i64 ((t:Int)/65536%32),.int .i64 ((t:Int)/2048%32),.int .i64 ((t:Int)/32%64),.int .i64 (2*((t:Int)%32))]
theorem zeH:(Tryz.prog.info? 148).map (·.size)=some 6:=by kernel_rfl
theorem zeo:(Tryz.prog.info? 93).map (·.size)=some 6:=by kernel_rfl
set_option maxRecDepth 100000 in
set_option maxHeartbeats 1600000 in
theorem Qk (t:Nat) (w:World) (ht:t<4294967296) :
 Calls Tryz.prog 150 #[.int .u32 (t:Nat)] w fun e w'=>e = .returned (.agg (qi t).toArray)∧Upd [] w w':=by
 go_enter Tryz.func150,Tryz.ntmps150
 go_upto_region 2 with fail
 have hT:=(Blk.new w [.int .u32 (t:Nat)] 22).alloc (Obj.cells #[.int .i64 0,.int .i64 0,.int .i64 0,.int .i64 0,.int .i64 0,.int .i64 0] 148)
 have hR:=Blk.new (w.alloc (Obj.cells #[.int .u32 (t:Nat)] 22)) [.int .i64 0,.int .i64 0,.int .i64 0,.int .i64 0,.int .i64 0,.int .i64 0] 148
 have hU:Upd [] w ((w.alloc (Obj.cells #[.int .u32 (t:Nat)] 22)).alloc (Obj.cells #[.int .i64 0,.int .i64 0,.int .i64 0,.int .i64 0,.int .i64 0,.int .i64 0] 148)):=((Upd.refl [] w).alloc _).alloc _
 rw [World.size_alloc] at hR
 change Code.wp _ _ _ _ ((w.alloc (Obj.cells #[.int .u32 (t:Nat)] 22)).alloc (Obj.cells #[.int .i64 0,.int .i64 0,.int .i64 0,.int .i64 0,.int .i64 0,.int .i64 0] 148))
 generalize (w.alloc (Obj.cells #[.int .u32 (t:Nat)] 22)).alloc (Obj.cells #[.int .i64 0,.int .i64 0,.int .i64 0,.int .i64 0,.int .i64 0,.int .i64 0] 148)=w2 at *
 have HC:=Lib.hid (hT.cell 0 rfl)
 have HR:=Lib.hid hR
 clear hT hR
 go_wp2_with fail
 refine (qP t 25 7 w.heap.size _ (by exact HC.out) ht (by omega) (by omega)).mono ?_
 rintro e w3 ⟨rfl,k0,rfl⟩
 go_wp2_with fail
 refine (qP t 21 4 w.heap.size _ (by exact HC.out) ht (by omega) (by omega)).mono ?_
 rintro e w3 ⟨rfl,k1,rfl⟩
 go_wp2_with fail
 refine (qP t 16 5 w.heap.size _ (by exact HC.out) ht (by omega) (by omega)).mono ?_
 rintro e w3 ⟨rfl,k2,rfl⟩
 go_wp2_with fail
 refine (qP t 11 5 w.heap.size _ (by exact HC.out) ht (by omega) (by omega)).mono ?_
 rintro e w3 ⟨rfl,k3,rfl⟩
 go_wp2_with fail
 refine (qP t 5 6 w.heap.size _ (by exact HC.out) ht (by omega) (by omega)).mono ?_
 rintro e w3 ⟨rfl,k4,rfl⟩
 go_wp2_with fail
 refine (qP t 0 5 w.heap.size _ (by exact HC.out) ht (by omega) (by omega)).mono ?_
 rintro e w3 ⟨rfl,k5,rfl⟩
 have r0:=HR.out.cell 0 rfl
 have f0:=HR.out.frz 0
 have r1:=HR.out.cell 1 rfl
 have f1:=HR.out.frz 1
 have r2:=HR.out.cell 2 rfl
 have f2:=HR.out.frz 2
 have r3:=HR.out.cell 3 rfl
 have f3:=HR.out.frz 3
 have r4:=HR.out.cell 4 rfl
 have f4:=HR.out.frz 4
 have r5:=HR.out.cell 5 rfl
 have f5:=HR.out.frz 5
 go_wp2
 have hB:=(((((((HR.out.drewN (k0+k1+k2+k3+k4+k5)).set 0 (.int .i64 (1980+(t:Int)/33554432%128))).set 1 (.int .i64 ((t:Int)/2097152%16))).set 2 (.int .i64 ((t:Int)/65536%32))).set 3 (.int .i64 ((t:Int)/2048%32))).set 4 (.int .i64 ((t:Int)/32%64))).set 5 (.int .i64 (2*((t:Int)%32))))
 refine bodyPost_ret (v := .agg (qi t).toArray) (results_cell_row rfl _ _ (w.heap.size+1) 148 (qi t).toArray (0,0) _ (by simp) (hB) Tryz.underlying148 rfl (by rw [zeH]; rfl)) (by simp) ⟨rfl,?_⟩
 exact (((((((hU.drewN _).setCell (.inr (by simp)) _).setCell (.inr (by simp)) _).setCell (.inr (by simp)) _).setCell (.inr (by simp)) _).setCell (.inr (by simp)) _).setCell (.inr (by simp)) _)
theorem qM (a b:Int) (w:World):Calls Tryz.prog 193 #[.int .i64 a,.int .i64 b] w fun e w'=>e = .returned (.bool (decide (0≤a)&&decide (a<b)))∧w=w':=by
 by_cases h:0≤a
 · have t1:decide (0≤a)=true:=decide_eq_true h
   go_enter Tryz.func193,Tryz.ntmps193
   go_wp2
   go_returns
   exact ⟨by simp [t1],rfl⟩
 · have t1:decide (0≤a)=false:=decide_eq_false h
   go_enter Tryz.func193,Tryz.ntmps193
   go_wp2
   go_returns
   exact ⟨by simp [t1],rfl⟩
end Go.Proofs.YtigjingielnaoaaGreatDoor
namespace Go.Proofs.YtigjingielnaoaaGreatDoor
open Go.RowKit
def vU (y:Int):Bool:=decide (y%4=0)&&decide (y≠2100)
def qj (y m:Int):Int:=if m<1∨12<m then 0 else if m=2 then (if vU y=true then 29 else 28) else if m=4∨m=6∨m=9∨m=11 then 30 else 31
theorem zat (y:Int) (w:World) (hy:1980≤y) (hy2:y≤2107):Calls Tryz.prog 222 #[.int .i64 y] w fun e w'=>e = .returned (.bool (vU y))∧w=w':=by
 have h0:(0:Int)≤y:=by omega
 by_cases h:y%4=0
 · have t1:(y%4==0)=true:=by simp [h]
   have HB:=Lib.hid (show vU y=(y != 2100) from by unfold vU; rw [decide_eq_true h]; by_cases h2:y=2100<;>simp [h2])
   clear h
   go_enter Tryz.func222,Tryz.ntmps222
   go_wp2
   go_returns
   exact ⟨by rw [HB.out]; rfl,rfl⟩
 · have t1:(y%4==0)=false:=by simp [h]
   have HB:=Lib.hid (show vU y=false from by unfold vU; rw [decide_eq_false h]; rfl)
   clear h
   go_enter Tryz.func222,Tryz.ntmps222
   go_wp2
   go_returns
   exact ⟨by rw [HB.out]; rfl,rfl⟩
set_option maxRecDepth 100000 in
set_option maxHeartbeats 6400000 in
theorem zaF (y m:Int) (w:World) (hy:1980≤y) (hy2:y≤2107) (hm0:0≤m) (hm:m≤15):Calls Tryz.prog 194 #[.int .i64 y,.int .i64 m] w fun e w'=>e = .returned (.int .i64 (qj y m))∧Upd [] w w':=by
 have t1:decide (y<1980)=false:=decide_eq_false (by omega)
 have t2:decide (2107<y)=false:=decide_eq_false (by omega)
 have HL:=Lib.hid (fun w'=>zat y w' hy hy2)
 by_cases h2:m=2
 · subst h2
   cases hb:vU y with
   | true =>
     have HB:=Lib.hid (show qj y 2=29 from by unfold qj; rw [hb]; rfl)
     rw [hb] at HL
     go_enter Tryz.func194,Tryz.ntmps194
     go_wp2_with fail
     refine (HL.out _).mono ?_
     rintro e w1 ⟨rfl,rfl⟩
     go_wp2
     go_returns
     exact ⟨by rw [HB.out]; rfl,(Upd.refl _ _).alloc _⟩
   | false =>
     have HB:=Lib.hid (show qj y 2=28 from by unfold qj; rw [hb]; rfl)
     rw [hb] at HL
     go_enter Tryz.func194,Tryz.ntmps194
     go_wp2_with fail
     refine (HL.out _).mono ?_
     rintro e w1 ⟨rfl,rfl⟩
     go_wp2
     go_returns
     exact ⟨by rw [HB.out]; rfl,(Upd.refl _ _).alloc _⟩
 · clear HL
   rcases (by omega:m=0∨m=1∨m=2∨m=3∨m=4∨m=5∨m=6∨m=7∨m=8∨m=9∨m=10∨m=11∨m=12∨m=13∨m=14∨m=15) with rfl | rfl | rfl | rfl | rfl | rfl | rfl | rfl | rfl | rfl | rfl | rfl | rfl | rfl | rfl | rfl
   all_goals first
    | (exact absurd rfl h2)
    | (clear h2
       go_enter Tryz.func194,Tryz.ntmps194
       go_wp2
       go_returns
       first | exact ⟨rfl,(Upd.refl _ _).alloc _⟩ | exact ⟨rfl,.refl _ _⟩)
set_option maxRecDepth 100000 in
set_option maxHeartbeats 6400000 in
theorem zbB (y m:Int) (w:World) (hy:1980≤y) (hy2:y≤2107) (hm0:0≤m) (hm:m≤15):Calls Tryz.prog 152 #[.int .i64 y,.int .i64 m] w fun e w'=>e = .returned (.int .i64 (qj y m))∧w=w':=by
 have t1:decide (y<1980)=false:=decide_eq_false (by omega)
 have t2:decide (2107<y)=false:=decide_eq_false (by omega)
 have h0:(0:Int)≤y:=by omega
 by_cases h2:m=2
 · subst h2
   by_cases h4:y%4=0
   · have t3:(y%4==0)=true:=by simp [h4]
     by_cases h5:y=2100
     · have HB:=Lib.hid (show qj y 2=28 from by subst h5; rfl)
       have t4:(y != 2100)=false:=by simp [h5]
       clear h4 h5
       go_enter Tryz.func152,Tryz.ntmps152
       go_wp2
       go_returns
       exact ⟨by rw [HB.out]; rfl,rfl⟩
     · have HB:=Lib.hid (show qj y 2=29 from by unfold qj vU; simp [h4,h5])
       have t4:(y != 2100)=true:=by simp [h5]
       clear h4 h5
       go_enter Tryz.func152,Tryz.ntmps152
       go_wp2
       go_returns
       exact ⟨by rw [HB.out]; rfl,rfl⟩
   · have t3:(y%4==0)=false:=by simp [h4]
     have HB:=Lib.hid (show qj y 2=28 from by unfold qj vU; simp [h4])
     clear h4
     go_enter Tryz.func152,Tryz.ntmps152
     go_wp2
     go_returns
     exact ⟨by rw [HB.out]; rfl,rfl⟩
 · rcases (by omega:m=0∨m=1∨m=2∨m=3∨m=4∨m=5∨m=6∨m=7∨m=8∨m=9∨m=10∨m=11∨m=12∨m=13∨m=14∨m=15) with rfl | rfl | rfl | rfl | rfl | rfl | rfl | rfl | rfl | rfl | rfl | rfl | rfl | rfl | rfl | rfl
   all_goals first
    | (exact absurd rfl h2)
    | (clear h2
       go_enter Tryz.func152,Tryz.ntmps152
       go_wp2
       go_returns
       exact ⟨rfl,rfl⟩)
end Go.Proofs.YtigjingielnaoaaGreatDoor
namespace Go.Proofs.YtigjingielnaoaaGreatDoor
theorem xn {P:Program} {md:Region.Mode} {ops:Array Oper} {Q:Exit→Act→World→Prop} {S:World→Prop} {i:Nat} {oi:Oper} {d:Option Tmp} {v:Value} {fuel:Nat} {listed:Array Bool} {a:Act} {w:World} (hi:ops[i]? =some oi) (hd:oi.dst=d)
 (hs:Region.noSelect ops=true) (hf:Region.free md ops listed i=true) (hr:(Region.ready md ops listed).contains i=true)
 (hQ : ∀ c a w,Q (.panic c) (a.put d v) w→Q (.panic c) a w) (hw:Region.wanted oi (yielded ops a.tmps)=true) (hy : ∀ w,S w→(execOp a.eval oi).run P w = .ok (.value v) w) (hS:S w)
 (h:wpAnyH P md ops Q S fuel (listed.setIfInBounds i true) (a.put d v) w):wpAnyH P md ops Q S (fuel+1) listed a w:=by
 subst hd
 exact wpAnyH_take hi hs hf hr hQ (Or.inl ⟨hw,hy⟩) hS h
theorem zcE {P:Program} {md:Region.Mode} {ops:Array Oper} {Q:Exit→Act→World→Prop} {S:World→Prop} {i:Nat} {oi:Oper} {d:Option Tmp} {fuel:Nat} {listed:Array Bool} {a:Act} {w:World} (hi:ops[i]? =some oi) (hd:oi.dst=d)
 (hs:Region.noSelect ops=true) (hf:Region.free md ops listed i=true) (hr:(Region.ready md ops listed).contains i=true)
 (hQ : ∀ c a w,Q (.panic c) (a.put d undef) w→Q (.panic c) a w) (hw:Region.wanted oi (yielded ops a.tmps)=false) (hS:S w)
 (h:wpAnyH P md ops Q S fuel (listed.setIfInBounds i true) (a.put d undef) w):wpAnyH P md ops Q S (fuel+1) listed a w:=by
 subst hd
 exact wpAnyH_take hi hs hf hr hQ (Or.inr ⟨hw,rfl⟩) hS h
end Go.Proofs.YtigjingielnaoaaGreatDoor
namespace Go.Proofs.YtigjingielnaoaaGreatDoor
open Go.RowKit
theorem hdT {P:Program} {md:Region.Mode} {ops:Array Oper} {Q:Exit→Act→World→Prop} {S:World→Prop} {oi:Oper} {v:Value} {fuel:Nat} {listed:Array Bool} {a:Act} {w:World} {G:Prop} (i:Nat) (d:Option Tmp) (h:G)
 (hi:ops[i]? =some oi:=by rfl) (hd:oi.dst=d:=by rfl)
 (hy : ∀ w,S w→(execOp a.eval oi).run P w = .ok (.value v) w:=by intro w hSw; (try dsimp only at hSw); go_simp; try with_reducible rfl)
 (hs:Region.noSelect ops=true:=by kernel_rfl) (hf:Region.free md ops listed i=true:=by kernel_rfl) (hr:(Region.ready md ops listed).contains i=true:=by kernel_rfl)
 (hQ : ∀ c a w,Q (.panic c) (a.put d v) w→Q (.panic c) a w:=by exact fun _ _ _ h=>h) (hw:Region.wanted oi (yielded ops a.tmps)=true:=by rfl) (hS:S w:=by assumption)
 (hn:wpAnyH P md ops Q S fuel (listed.setIfInBounds i true) (a.put d v) w=G:=by (try simp only [Act.put,List.setIfInBounds_toArray,List.set_cons_zero,List.set_cons_succ]); exact rfl):wpAnyH P md ops Q S (fuel+1) listed a w :=
 xn hi hd hs hf hr hQ hw hy hS (hn▸h)
theorem hdK {P:Program} {md:Region.Mode} {ops:Array Oper} {Q:Exit→Act→World→Prop} {S:World→Prop} {oi:Oper} {fuel:Nat} {listed:Array Bool} {a:Act} {w:World} {G:Prop} (i:Nat) (d:Option Tmp) (h:G)
 (hi:ops[i]? =some oi:=by rfl) (hd:oi.dst=d:=by rfl)
 (hs:Region.noSelect ops=true:=by kernel_rfl) (hf:Region.free md ops listed i=true:=by kernel_rfl) (hr:(Region.ready md ops listed).contains i=true:=by kernel_rfl)
 (hQ : ∀ c a w,Q (.panic c) (a.put d undef) w→Q (.panic c) a w:=by exact fun _ _ _ h=>h) (hw:Region.wanted oi (yielded ops a.tmps)=false:=by rfl) (hS:S w:=by assumption)
 (hn:wpAnyH P md ops Q S fuel (listed.setIfInBounds i true) (a.put d undef) w=G:=by (try simp only [Act.put,List.setIfInBounds_toArray,List.set_cons_zero,List.set_cons_succ]); exact rfl):wpAnyH P md ops Q S (fuel+1) listed a w :=
 zcE hi hd hs hf hr hQ hw hS (hn▸h)
theorem hdN {X G:Prop} (h:G) (hn:X=G:=by (try simp only [Act.put,List.setIfInBounds_toArray,List.set_cons_zero,List.set_cons_succ]); exact rfl):X:=hn▸h
theorem hdO {P:Program} {md:Region.Mode} {ops:Array Oper} {Q:Exit→Act→World→Prop} {S:World→Prop} {o:Oper} {fuel:Nat} {listed:Array Bool} {a:Act} {w:World} (i:Nat)
 (h : ∀ K':Act→World→Prop,Shut (∀ a w,S w→(S w→wpAnyH P md ops Q S fuel (listed.setIfInBounds i true) a w)→K' a w)→if Region.wanted o (yielded ops a.tmps)=true then Oper.wp P o a w K' Q else K' (a.put o.dst undef) w)
 (ho:ops[i]? =some o:=by rfl) (hr:Region.ready md ops listed=[i]:=by kernel_rfl):wpAnyH P md ops Q S (fuel+1) listed a w :=
 wpAnyH_ready hr (by simp) (AllReadyH.cons ho h AllReadyH.nil)
end Go.Proofs.YtigjingielnaoaaGreatDoor
