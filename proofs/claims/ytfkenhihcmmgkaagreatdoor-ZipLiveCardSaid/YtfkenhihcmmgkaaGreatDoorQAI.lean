/- Package inflate: a copy: plain, and its walk. -/
import Derived.Test.YtfkenhihcmmgkaaGreatDoorQAH
set_option linter.unusedVariables false
set_option linter.unusedSimpArgs false
set_option linter.unusedSectionVars false
set_option maxRecDepth 100000
set_option maxHeartbeats 12800000
namespace Go.Proofs.YtfkenhihcmmgkaaGreatDoor
open Go.RowKit
def yH (far:Nat):Nat→List Nat→List Nat
 | 0,out=>out
 | n+1,out=>yH far n (out++[out.getD (out.length-far) 0])
theorem kT (far n:Nat) (out:List Nat):(yH far n out).length=out.length+n:=by
 induction n generalizing out with
 | zero=>rfl
 | succ n ih=>simp only [yH,ih]; simp; omega
theorem XX (far n:Nat) (out:List Nat):yH far (n+1) out=yH far n out++[(yH far n out).getD ((yH far n out).length-far) 0]:=by
 induction n generalizing out with
 | zero=>rfl
 | succ n ih=>rw [yH,ih]; rfl
def qC (most long:Nat) (out:List Nat) (code a:Nat) (r:Nat×Nat):Except Nat (List Nat×Nat) :=
 match jS 1 2 4 30 (code:Nat) (r.1:Nat) with
 | none => .error 2
 | some far=>if far≤out.length then (if out.length+long≤most then .ok (yH far long out,r.2) else .error 4) else .error 2
def xK (s:ByteArray) (most long:Nat) (out:List Nat) (r:Nat×Nat):Except Nat (List Nat×Nat) :=
 if yP (r.1:Nat)<0 then .error 2 else zu s r.2 (yP (r.1:Nat)).toNat >>= qC most long out r.1 r.2
def xq (l2:List Int) (s:ByteArray) (most sym:Nat) (out:List Nat) (r:Nat×Nat):Except Nat (List Nat×Nat) :=
 match xy (sym:Nat) (r.1:Nat) with
 | none => .error 2
 | some long=>yk l2 s r.2 >>= xK s most long out
def Ju (l2:List Int) (s:ByteArray) (most sym:Nat) (out:List Nat) (a:Nat):Except Nat (List Nat×Nat) :=
 if ye (sym:Nat)<0 then .error 2 else zu s a (ye (sym:Nat)).toNat >>= xq l2 s most sym out
def yV (x b:Nat) (v:Value):List Nat:=x::b::v.ownBlock.toList
def YB (w:World) (x b:Nat) (v:Value) (s:ByteArray) (most:Nat) (ret:Value) (r:Except Nat (List Nat×Nat)) (e:Ending) (w':World):Prop :=
 match r with
 | .ok (out,a')=>e = .returned ret ∧ ∃ v',StAt w' x b v' s a' out most∧Upd (yV x b v) w w'∧Later w v v'
 | .error c=>e = .panicked [{ v := .iface 29 (.int .i64 (c:Nat)),recovered:=false }]∧Upd (yV x b v) w w'
theorem zg7 (n:Int):ye n≤32:=by
 unfold ye zQ;split
 · omega
 · split
   · omega
   · split
     · omega
     · split
       · omega
       · have:(n-257-(8:Nat))/(4:Nat)≤20:=(by omega);omega
theorem zgW (n:Int):yP n≤32:=by
 unfold yP zQ;split
 · omega
 · split
   · omega
   · have:(n-(4:Nat))/(2:Nat)≤20:=(by omega);omega
theorem zai {n more:Int} {v:Nat} (h:xy n more=some v):v≤258:=by
 unfold xy at h;split at h
 · split at h
   · cases h; omega
   · cases h
 · split at h
   · cases h
   · split at h
     · split at h
       · cases h
       · cases h; omega
     · cases h
theorem zh8 (B G F M k:Nat):B≤vM B G F M k:=by
 induction k with
 | zero=>exact Nat.le_refl _
 | succ k ih=>exact Nat.le_trans ih (Nat.le_add_right _ _)
theorem zd4 {B G F M:Nat} {k more:Int} {v:Nat} (h:jS B G F M k more=some v):B≤v:=by
 unfold jS at h;split at h
 · cases h
 · cases h; have:=zh8 B G F M k.toNat; omega
theorem StAt.read {w w':World} {x b:Nat} {v:Value} {s:ByteArray} {a a':Nat} {out:List Nat} {most:Nat} (h:StAt w x b v s a out most) (hU:Upd [b] w w') (hR:RdAt w' b 292 s a' false):StAt w' x b v s a' out most :=
 { h with blk:=h.blk.upd hU (by have:=h.xb; simpa using this),row:=Row.upd h.row hU (fun k hk hm=>by simp at hm; exact h.vb (by rw [hk,hm])),rd:=hR }
theorem StAt.pure {w w':World} {x b:Nat} {v:Value} {s:ByteArray} {a:Nat} {out:List Nat} {most:Nat} (h:StAt w x b v s a out most) (hU:Upd [] w w'):StAt w' x b v s a out most :=
 { h with blk:=h.blk.upd hU (by simp),row:=Row.upd h.row hU (by simp),rd:=h.rd.upd hU (by simp) }
theorem yp {w w':World} {x b:Nat} {v:Value} (h:Upd [b] w w'):Upd (yV x b v) w w':=h.mono (fun k hk => .inl (by simp at hk; simp [yV,hk]))
theorem vk {w w':World} {x b:Nat} {v:Value} (h:Upd [] w w'):Upd (yV x b v) w w':=h.mono (by simp)
theorem StAt.push {wr wm w9:World} {x b:Nat} {v v9:Value} {s:ByteArray} {a:Nat} {out:List Nat} {most:Nat} (h:StAt wr x b v s a out most) (hm:Upd [] wr wm) {n:Nat} (ys:List Nat) (hR:Row w9 5 1 v9 n (u8s out++u8s ys)) (hU:Upd v.ownBlock.toList wm w9) (hT:Later wm v v9) (hle:out.length+ys.length≤most) (hlt : ∀ y∈ys,y<256) :
 StAt (w9.setCell ⟨x,1,none⟩ v9) x b v9 s a (out++ys) most∧Upd (yV x b v) wr (w9.setCell ⟨x,1,none⟩ v9)∧Later wr v v9:=by
 have hT':Later wr v v9:=hT.imp id fun ⟨g,h1,h2⟩=>⟨g,h1,Nat.le_trans hm.size h2⟩;have hUw:Upd (yV x b v) wr w9:=(hm.mono (by simp)).then (hU.mono fun k hk => .inl (by simp [yV,hk]));have hx:x∉v.ownBlock.toList:=by have:=h.vx; simpa [eq_comm] using this
 have hb:b∉v.ownBlock.toList:=by have:=h.vb; simpa [eq_comm] using this
 have hxlt:=h.blk.lt;have hblt:=h.rd.1.lt;have hvx:=hT'.ne hxlt h.vx;have hvb:=hT'.ne hblt h.vb;have hn:n=(out++ys).length:=by have:=hR.len; simp [jN] at this ⊢; omega
 have hB9:=(h.blk.upd hm (by simp)).upd hU hx;have hR':=(h.rd.upd hm (by simp)).upd hU hb;refine ⟨⟨hB9.set 1 v9,?_,hR'.upd ((Upd.refl [x] w9).setCell (.inl (by simp)) v9) (by have:=h.xb; simp; omega),hvx,hvb,h.xb,by simpa using hle,h.cap,?_⟩,hUw.setCell (.inl (by simp [yV])) v9,hT'⟩
 · rw [XF,← hn]; exact hR.setFar v9 hvx
 · intro y hy;rcases List.mem_append.1 hy with hy | hy
   · exact h.lt y hy
   · exact hlt y hy
theorem zb4 {wr w8 wm w9:World} {x b:Nat} {v0 v9:Value} {s:ByteArray} {a g vc' q far i long y most:Nat} {M out:List Nat}
 (hSt:StAt wr x b (.slice (some ⟨g,0,none⟩) M.length vc') s a M most) (hq:M.length=q+far) (hm:Upd [] wr wm)
 (hR9:Row w9 5 1 v9 (q+far+1) (u8s M++[.int .u8 (y:Nat)])) (hU9:Upd (Value.slice (some ⟨g,0,none⟩) (q+far) vc').ownBlock.toList wm w9) (hT9:Later wm (.slice (some ⟨g,0,none⟩) (q+far) vc') v9)
 (hlen:M.length=out.length+i) (hroom:out.length+long≤most) (hi:i<long) (hy:y<256) (hUr:Upd (yV x b v0) w8 wr) (hTr:Later w8 v0 (.slice (some ⟨g,0,none⟩) M.length vc')) (hsn:Hid (yH far (i+1) out=M++[y])) :
 ∃ i' v',i'≤long∧long-(i+1)=long-i'∧Value.int .i64 ((i:Int)+1) = .int .i64 (i':Nat)∧StAt (w9.setCell ⟨x,1,none⟩ v9) x b v' s a (yH far i' out) most∧Upd (yV x b v0) w8 (w9.setCell ⟨x,1,none⟩ v9)∧Later w8 v0 v':=by
 rw [← hq] at hR9 hU9 hT9;obtain ⟨hS9,hU',hT'⟩:=hSt.push hm [y] hR9 hU9 hT9 (by simp; omega) (by simpa using hy);refine ⟨i+1,v9,by omega,rfl,rfl,?_,?_,?_⟩
 · rw [hsn.out]; exact hS9
 · exact hUr.trans hU' (fun k hk=>by
    simp only [yV,List.mem_cons] at hk ⊢;rcases hk with hk | hk | hk
    · exact .inl (.inl hk)
    · exact .inl (.inr (.inl hk))
    · exact (hTr.fp k hk).imp (fun h => .inr (.inr h)) id)
 · exact hTr.trans hUr.size hT'
theorem YC (x b sym:Nat) (dv v:Value) (l2:List Int) (w:World) (s:ByteArray) (a:Nat) (out:List Nat) (most:Nat) (h:StAt w x b v s a out most) (hs:s.size≤1099511627776) (hD:DecFor w dv l2 b) (hsym:sym≤1000) (hl2:l2.length≤300) :
 Calls Tryz.prog 274 #[.pointer (some ⟨x,0,none⟩),.int .i64 (sym:Nat),dv] w (YB w x b v s most (.tuple #[]) (Ju l2 s most sym out a)):=by
 have HS:=Hi (show Ju l2 s most sym out a=if ye (sym:Nat)<0 then .error 2 else zu s a (ye (sym:Nat)).toNat >>= xq l2 s most sym out by rfl);generalize Ju l2 s most sym out a=CP at *;have HLB:=Hi (Qt sym w (by omega));have hle:=zg7 (sym:Nat);have HLO:=Hi (fun more w'=>zde sym more w' (by omega));by_cases h1:ye (sym:Nat)<0
 · have hE:=HS.out;rw [if_pos h1] at hE;have HE:=Hi hE;have hf:decide (0≤ye (sym:Nat))=false:=decide_eq_false (by omega);clear hE HS;generalize ye (sym:Nat)=lb at *;go_enter Tryz.func274,Tryz.ntmps274;go_wp2_with fail
   refine HLB.out.mono ?_;rintro e w1 ⟨rfl,hU1⟩;go_wp2_with fail
   refine (xa _).mono ?_;rintro e w2 ⟨rfl,rfl⟩;go_wp2;rw [HE.out];exact ⟨rfl,rfl,vk hU1⟩
 · have hE:=HS.out;rw [if_neg h1] at hE;have HE:=Hi hE;have hf:decide (0≤ye (sym:Nat))=true:=decide_eq_true (by omega);obtain ⟨k,hk⟩ : ∃ k:Nat,ye (sym:Nat)=(k:Int):=⟨(ye (sym:Nat)).toNat,by omega⟩;rw [hk] at HLB hle hf HE;rw [Int.toNat_natCast] at HE;clear hE HS h1 hk;rcases zK s a k with ⟨t,ht,hta,htk⟩ | htk
   · have hE:=HE.out;rw [htk] at hE;have HE:=Hi (show CP=xq l2 s most sym out (t,a+k) from hE);clear hE;go_enter Tryz.func274,Tryz.ntmps274;(go_wp2_with fail);refine HLB.out.mono ?_;rintro e w1 ⟨rfl,hU1⟩;have h1:=h.pure hU1;have c1:=h1.blk.cell 0 rfl;(go_wp2_with fail);refine (yB _).mono ?_;rintro e w2 ⟨rfl,rfl⟩;(go_wp2_with fail);refine (yW h1.rd hs (by omega) htk).mono ?_;rintro e w2 ⟨rfl,hR2,hU2⟩;have h2:=h1.read hU2 hR2;have hD2:=(hD.upd (hU1.mono (by simp))).upd hU2;have hUw2:Upd [b] w w2:=(hU1.mono (by simp)).then hU2;have c2:=h2.blk.cell 0 rfl;have hLo:=HLO.out (t:Nat) w2;unfold jn at hLo;cases hlo:xy (sym:Nat) (t:Nat) with
     | none =>
       have hE:=HE.out;unfold xq at hE;rw [hlo] at hE hLo;have HE:=Hi (show CP = .error 2 from hE);have HL:=Hi (show Calls Tryz.prog 312 #[.int .i64 (sym:Nat),.int .i64 (t:Nat)] w2 fun e w'=>e = .returned (.tuple #[.int .i64 0,.bool false])∧Upd [] w2 w' from hLo);clear hE hLo hlo;(go_wp2_with fail);refine HL.out.mono ?_;rintro e w3 ⟨rfl,hU3⟩;(go_wp2_with fail);refine (xa _).mono ?_;rintro e w4 ⟨rfl,rfl⟩;go_wp2;rw [HE.out];exact ⟨rfl,rfl,yp (hUw2.then (hU3.mono (by simp)))⟩
     | some long =>
       have hE:=HE.out;unfold xq at hE;rw [hlo] at hE hLo;have HE:=Hi (show CP=(yk l2 s (a+k) >>= xK s most long out) from hE);have hlong:=zai hlo;have HL:=Hi (show Calls Tryz.prog 312 #[.int .i64 (sym:Nat),.int .i64 (t:Nat)] w2 fun e w'=>e = .returned (.tuple #[.int .i64 (long:Nat),.bool true])∧Upd [] w2 w' from hLo);clear hE hLo hlo;(go_wp2_with fail);refine HL.out.mono ?_;rintro e w3 ⟨rfl,hU3⟩;have h3:=h2.pure hU3;have hD3:=hD2.upd (hU3.mono (by simp));have hUw3:Upd [b] w w3:=hUw2.then (hU3.mono (by simp));have c3:=h3.blk.cell 0 rfl;(go_wp2_with fail);refine (yB _).mono ?_;rintro e w4 ⟨rfl,rfl⟩;rcases Ja l2 s (a+k) hta with ⟨code,a4,hcode,ha4,_,hn⟩ | ⟨c,_,hn⟩
       · have hE:=HE.out;rw [hn] at hE;have HE:=Hi (show CP=xK s most long out (code,a4) from hE);clear hE;(go_wp2_with fail);refine (XD h3.rd hs hD3 hn).mono ?_;rintro e w4 ⟨rfl,hR4,hU4⟩;have h4:=h3.read hU4 hR4;have hUw4:Upd [b] w w4:=hUw3.then hU4;clear h1 h2 h3 c1 c2 c3 hU1 hU2 hU3 hU4 hR2 hD2 hUw2 hUw3 HL HLO HLB hn;have hbl:=zgW (code:Nat);have HBB:=Hi (Qm (code:Nat) w4);have hEb:=HE.out;unfold xK at hEb;simp only at hEb;by_cases hb1:yP (code:Nat)<0
         · rw [if_pos hb1] at hEb;have HE:=Hi hEb;have hbf:decide (0≤yP (code:Nat))=false:=decide_eq_false (by omega);clear hEb;generalize yP (code:Nat)=bb at *;(go_wp2_with fail);refine HBB.out.mono ?_;rintro e w5 ⟨rfl,hU5⟩;(go_wp2_with fail);refine (xa _).mono ?_;rintro e w6 ⟨rfl,rfl⟩;go_wp2;rw [HE.out];exact ⟨rfl,rfl,yp (hUw4.then (hU5.mono (by simp)))⟩
         · rw [if_neg hb1] at hEb;have hbf:decide (0≤yP (code:Nat))=true:=decide_eq_true (by omega);obtain ⟨k2,hk2⟩ : ∃ k:Nat,yP (code:Nat)=(k:Int):=⟨(yP (code:Nat)).toNat,by omega⟩;rw [hk2] at HBB hbl hbf hEb;rw [Int.toNat_natCast] at hEb;have HE:=Hi hEb;clear hEb hb1 hk2;rcases zK s a4 k2 with ⟨r,hr,hra,htk⟩ | htk
           · have hE:=HE.out;rw [htk] at hE;have HE:=Hi (show CP=qC most long out code a4 (r,a4+k2) from hE);clear hE;(go_wp2_with fail);refine HBB.out.mono ?_;rintro e w5 ⟨rfl,hU5⟩;have h5:=h4.pure hU5;have c5:=h5.blk.cell 0 rfl;(go_wp2_with fail);refine (yB _).mono ?_;rintro e w6 ⟨rfl,rfl⟩;(go_wp2_with fail);refine (yW h5.rd hs (by omega) htk).mono ?_;rintro e w6 ⟨rfl,hR6,hU6⟩;have h6:=h5.read hU6 hR6;have hUw6:Upd [b] w w6:=(hUw4.then (hU5.mono (by simp))).then hU6;clear h5 h4 c5 hU5 hU6 hR6 hUw4 hR4 HBB htk;have hBo:=zdn (code:Nat) (r:Nat) w6;unfold jn at hBo;have hEc:=HE.out;unfold qC at hEc;simp only at hEc;cases hbo:jS 1 2 4 30 (code:Nat) (r:Nat) with
             | none =>
               rw [hbo] at hEc hBo;have HE:=Hi (show CP = .error 2 from hEc);have HB:=Hi (show Calls Tryz.prog 313 #[.int .i64 (code:Nat),.int .i64 (r:Nat)] w6 fun e w'=>e = .returned (.tuple #[.int .i64 0,.bool false])∧Upd [] w6 w' from hBo);clear hEc hBo hbo;(go_wp2_with fail);refine HB.out.mono ?_;rintro e w7 ⟨rfl,hU7⟩;(go_wp2_with fail);refine (xa _).mono ?_;rintro e w8 ⟨rfl,rfl⟩;go_wp2;rw [HE.out];exact ⟨rfl,rfl,yp (hUw6.then (hU7.mono (by simp)))⟩
             | some far =>
               rw [hbo] at hEc hBo;have hfar1:=zd4 hbo;have HE:=Hi (show CP=if far≤out.length then (if out.length+long≤most then .ok (yH far long out,a4+k2) else .error 4) else .error 2 from hEc);have HB:=Hi (show Calls Tryz.prog 313 #[.int .i64 (code:Nat),.int .i64 (r:Nat)] w6 fun e w'=>e = .returned (.tuple #[.int .i64 (far:Nat),.bool true])∧Upd [] w6 w' from hBo);clear hEc hBo hbo;(go_wp2_with fail);refine HB.out.mono ?_;rintro e w7 ⟨rfl,hU7⟩;have h7:=h6.pure hU7;have hUw7:Upd [b] w w7:=hUw6.then (hU7.mono (by simp));obtain ⟨va,vc,rfl⟩:=h7.row.form;have c7:=h7.blk.cell 1 rfl;by_cases hfar:far≤out.length
               · have hff:decide ((far:Int)≤(out.length:Int))=true:=decide_eq_true (by omega);have hfn:decide (far≤out.length)=true:=decide_eq_true (by omega);have hE:=HE.out;rw [if_pos hfar] at hE;have HE:=Hi hE;clear hE;(go_wp2_with fail);refine (yB _).mono ?_;rintro e w8 ⟨rfl,rfl⟩;by_cases hroom:out.length+long≤most
                 · have hE:=HE.out;rw [if_pos hroom] at hE;have HE:=Hi hE;clear hE;(go_wp2_with fail);refine (XA x b long _ _ s _ out most h7 hroom).mono ?_;rintro e w8 ⟨rfl,k8,rfl⟩;have h8:=h7.pure ((Upd.refl [] _).drewN k8);have hUw8:Upd (yV x b (.slice va out.length vc)) w (w7.drewN k8):=yp (hUw7.drewN k8);have hsz8:=hUw8.size;clear hUw7 hUw6 h7 h6 c7 HB hU7;generalize w7.drewN k8=w8 at *;go_wp2;go_loopg [66] long (fun g s66 wr => ∃ i v',i≤long∧g=long-i∧s66 = .int .i64 (i:Nat)∧StAt wr x b v' s (a4+k2) (yH far i out) most∧Upd (yV x b (.slice va out.length vc)) w8 wr∧Later w8 (.slice va out.length vc) v')
                   case atStart=>exact ⟨0,_,by omega,rfl,rfl,h8,.refl _ _,.refl _ _⟩
                   case round =>
                    obtain ⟨i,v',hi,rfl,rfl,hSt,hUr,hTr⟩:=hrel;by_cases hc:i<long
                    · have hcz:(i:Int)<(long:Int):=(by omega);have hln:=kT far i out;have hsn:=Hi (XX far i out);have hle':=hSt.le;have hcap:=hSt.cap;have hlt':=hSt.lt;generalize yH far i out=M at *;obtain ⟨q,hq⟩ : ∃ q,M.length=q+far:=⟨M.length-far,by omega⟩;obtain ⟨g,vc',rfl,hg1,hg2⟩:=hSt.row.form' (by omega);have c1:=hSt.blk.cell 1 rfl;have f1:=hSt.blk.frz 1;have hMq:M[q]? =some (M.getD q 0):=(by rw [List.getD,List.getElem?_eq_getElem (by omega)]; rfl);have d1:=Row.cell hSt.row q (u := .int .u8 (M.getD q 0:Nat)) (by rw [u8s,List.getElem?_map,hMq]; rfl);have hqf:M.length-far=q:=(by omega);rw [hqf] at hsn;have hy256:M.getD q 0<256:=(by rw [List.getD,List.getElem?_eq_getElem (by omega)]; exact hlt' _ (List.getElem_mem _));clear hMq hqf;generalize M.getD q 0=y at *;obtain ⟨i1,hi1,hy0,hy1,hy2⟩:=info_parts Wl;have hN63:M.length+1≤maxLen:=(by unfold maxLen; omega);have hNb:(M.length+1)*1≤140737488355328:=(by omega);have hq0:(0:Int)≤(q:Int):=(by omega);have hqN:(q:Int)<(q:Int)+(far:Int):=(by omega);have e1:IntKind.i64.wrap (q:Int)=(q:Int):=IntWalk.i64_in _ (by omega);have hfx:x∉(Value.slice (some ⟨g,0,none⟩) M.length vc').ownBlock.toList:=(by have:=hSt.vx; simpa [eq_comm] using this);have hrow:=hSt.row;have hblk:=hSt.blk;rw [hq] at hrow hblk hN63 hNb hfx c1;have ca1:=(hblk.alloc (Obj.cells #[.int .u8 (y:Nat)] 5)).cell 1 rfl;have da1:=Lib.cell?_alloc_some (Obj.cells #[.int .u8 (y:Nat)] 5) d1;go_wp2
                      go_region_law ((refine qu _ (by rfl) _ _ 97 (by rfl) 5 i1 _ 1 1 Tryz.underlying97 hi1 hy0 hy1 hy2 rfl (by omega) (.slice (some ⟨g,0,none⟩) (q+far) vc') (q+far) _ (by rfl) (Row.alloc (Row.drew hrow) _) ⟨wr.heap.size,0,none⟩ 1 1 [_] (by rfl) (by rfl) (World.news_of_block (cs := #[_]) (t:=5) (fr:=(0,0)) (heap_alloc_new _ _)) (by simp [Value.oneCell']) hN63 hNb ?_; intro v9 w9 hR9 hU9 hT9; obtain ⟨va9,vc9,rfl⟩:=hR9.form; have hB9:=(hblk.drew.alloc _).upd hU9 hfx; have k9:=hB9.cell 1 rfl; have f9:=hB9.frz 1))
                      (all_goals clear ca1 da1 hB9 k9 f9 c1 f1 d1);(all_goals go_wp2);(all_goals go_roundg (long-(i+1)));all_goals first | omega | exact zb4 hSt hq (by first | exact ((Upd.refl _ _).alloc _).drew | exact ((Upd.refl _ _).drew.alloc _)) hR9 hU9 hT9 hln hroom hc hy256 hUr hTr hsn
                    · have hcz : ¬ (i:Int)<(long:Int):=(by omega);have hil:i=long:=(by omega);subst hil;go_wp2;go_returns;rw [HE.out];exact ⟨rfl,v',hSt,hUw8.then hUr,hTr.imp id fun ⟨g,h1,h2⟩=>⟨g,h1,Nat.le_trans hsz8 h2⟩⟩
                 · have hE:=HE.out;rw [if_neg hroom] at hE;have HE:=Hi hE;clear hE;(go_wp2_with fail);refine (Wo x b long _ _ s _ out most h7 hroom (by omega)).mono ?_;rintro e w8 ⟨rfl,k8,rfl⟩;go_wp2;rw [HE.out];exact ⟨rfl,rfl,yp (hUw7.drewN k8)⟩
               · have hff:decide ((far:Int)≤(out.length:Int))=false:=decide_eq_false (by omega);have hfn:decide (far≤out.length)=false:=decide_eq_false (by omega);have hE:=HE.out;rw [if_neg hfar] at hE;have HE:=Hi hE;clear hE;(go_wp2_with fail);refine (xa _).mono ?_;rintro e w8 ⟨rfl,rfl⟩;go_wp2;rw [HE.out];exact ⟨rfl,rfl,yp hUw7⟩
           · have hE:=HE.out;rw [htk] at hE;have HE:=Hi (show CP = .error 3 from hE);clear hE;(go_wp2_with fail);refine HBB.out.mono ?_;rintro e w5 ⟨rfl,hU5⟩;have h5:=h4.pure hU5;have c5:=h5.blk.cell 0 rfl;(go_wp2_with fail);refine (yB _).mono ?_;rintro e w6 ⟨rfl,rfl⟩;(go_wp2_with fail);refine (xk h5.rd hs (by omega) htk).mono ?_;rintro e w6 ⟨rfl,hU6⟩;go_wp2;rw [HE.out];exact ⟨rfl,rfl,yp ((hUw4.then (hU5.mono (by simp))).then hU6)⟩
       · have hE:=HE.out;rw [hn] at hE;have HE:=Hi (show CP = .error c from hE);clear hE;(go_wp2_with fail);refine (QZ h3.rd hs hD3 hn).mono ?_;rintro e w4 ⟨rfl,hU4⟩;go_wp2;rw [HE.out];exact ⟨rfl,rfl,yp (hUw3.then hU4)⟩
   · have hE:=HE.out;rw [htk] at hE;have HE:=Hi (show CP = .error 3 from hE);clear hE;go_enter Tryz.func274,Tryz.ntmps274;(go_wp2_with fail);refine HLB.out.mono ?_;rintro e w1 ⟨rfl,hU1⟩;have h1:=h.pure hU1;have c1:=h1.blk.cell 0 rfl;(go_wp2_with fail);refine (yB _).mono ?_;rintro e w2 ⟨rfl,rfl⟩;(go_wp2_with fail);refine (xk h1.rd hs (by omega) htk).mono ?_;rintro e w2 ⟨rfl,hU2⟩;go_wp2;rw [HE.out];exact ⟨rfl,rfl,(vk hU1).then (yp hU2)⟩
def qv (l2:List Int) (s:ByteArray) (most:Nat) (k:List Nat→Nat→Except Nat (List Nat×Nat)) (out:List Nat) (r:Nat×Nat):Except Nat (List Nat×Nat) :=
 if r.1=256 then .ok (out,r.2) else
  if r.1<256 then (if out.length+1≤most then k (out++[r.1]) r.2 else .error 4) else
   Ju l2 s most r.1 out r.2 >>= fun q=>k q.1 q.2
def yT (l1 l2:List Int) (s:ByteArray) (most:Nat):Nat→List Nat→Nat→Except Nat (List Nat×Nat)
 | 0,_,_ => .error 0
 | g+1,out,a=>yk l1 s a >>= qv l2 s most (yT l1 l2 s most g) out
theorem zgw {n:List Nat} {s:ByteArray} {f k a c x:Nat} (h:(xU n s f k a c).1=some x):a<(xU n s f k a c).2.1:=by
 induction f generalizing k a c with
 | zero=>cases h
 | succ f ih =>
   by_cases h1:a<8*s.size
   · cases hx:qy n k (2*c+zz s a 1) with
     | some y=>rw [jz h1 hx]; exact Nat.lt_succ_self a
     | none=>rw [jy h1 hx] at h ⊢; exact Nat.lt_trans (Nat.lt_succ_self a) (ih h)
   · rw [kJ h1] at h; cases h
theorem jB {l:List Int} {s:ByteArray} {a x a':Nat} (h:yk l s a = .ok (x,a')):a<a':=by
 unfold yk at h;split at h
 · cases h
 · have hA:=fun x=>@zgw (zj l) s 15 1 a 0 x;have e:nxt (zj l) s a false=xU (zj l) s 15 1 a 0:=rfl;rw [e] at h;generalize xU (zj l) s 15 1 a 0=rr at *;obtain ⟨o,a2,bad⟩:=rr;cases o with
   | some y=>have:=hA y rfl; cases h; exact this
   | none=>cases bad<;>cases h
theorem yL {s:ByteArray} {a n v a':Nat} (h:zu s a n = .ok (v,a')):a≤a':=by
 unfold zu at h;split at h
 · cases h; omega
 · cases h
theorem Vo {l2:List Int} {s:ByteArray} {most sym:Nat} {out out':List Nat} {a a':Nat} (h:Ju l2 s most sym out a = .ok (out',a')):a≤a':=by
 unfold Ju at h;split at h
 · cases h
 · cases h1:zu s a (ye (sym:Nat)).toNat with
   | error c=>rw [h1] at h; cases h
   | ok r1 =>
     rw [h1] at h;have h1':=yL h1
     replace h:xq l2 s most sym out r1 = .ok (out',a'):=h
     unfold xq at h;split at h
     · cases h
     · cases h2:yk l2 s r1.2 with
       | error c=>rw [h2] at h; cases h
       | ok r2 =>
         rw [h2] at h;have h2':=jB h2;rename_i long _
         replace h:xK s most long out r2 = .ok (out',a'):=h
         unfold xK at h;split at h
         · cases h
         · cases h3:zu s r2.2 (yP (r2.1:Nat)).toNat with
           | error c=>rw [h3] at h; cases h
           | ok r3 =>
             rw [h3] at h;have h3':=yL h3
             replace h:qC most long out r2.1 r2.2 r3 = .ok (out',a'):=h
             unfold qC at h;split at h
             · cases h
             · split at h
               · split at h
                 · cases h; omega
                 · cases h
               · cases h
def DecNew (w0 w:World) (dv:Value) (l:List Int):Prop :=
 (dv = .pointer none∧(zm l=3∨zm l=0))∨(zm l≠3∧zm l≠0 ∧ ∃ d v,dv = .pointer (some ⟨d,0,none⟩)∧DcAt w d v (zj l)∧w0.heap.size≤d ∧ ∀ k,v.ownBlock=some k→w0.heap.size≤k)
theorem DecNew.upd {w0 w w':World} {dv:Value} {l:List Int} {fp:List Nat} (h:DecNew w0 w dv l) (hU:Upd fp w w') (hf : ∀ k∈fp,k<w0.heap.size):DecNew w0 w' dv l:=by
 rcases h with h | ⟨h1,h2,d,v,e,hD,h3,h4⟩
 · exact .inl h
 · exact .inr ⟨h1,h2,d,v,e,hD.upd hU (fun hm=>by have:=hf _ hm; omega) (fun k hk hm=>by have:=hf _ hm; have:=h4 k hk; omega),h3,h4⟩
theorem DecNew.for {w0 w:World} {dv:Value} {l:List Int} {b:Nat} (h:DecNew w0 w dv l) (hb:b<w0.heap.size):DecFor w dv l b:=by
 rcases h with h | ⟨h1,h2,d,v,e,hD,h3,h4⟩
 · exact .inl h
 · exact .inr ⟨h1,h2,d,v,e,hD,by omega,fun hm=>by have:=h4 b hm; omega⟩
theorem DecNew.back {w0 w1 w:World} {dv:Value} {l:List Int} (h:DecNew w1 w dv l) (hs:w0.heap.size≤w1.heap.size):DecNew w0 w dv l:=by
 rcases h with h | ⟨h1,h2,d,v,e,hD,h3,h4⟩
 · exact .inl h
 · exact .inr ⟨h1,h2,d,v,e,hD,by omega,fun k hm=>by have:=h4 k hm; omega⟩
theorem zdJ (a:Option Addr) (len cap:Nat) (l:List Int) (w:World) (hlen:len≤9223372036854775807) (hI:IntsIn w a len l) :
 Calls Tryz.prog 272 #[.slice a len cap] w fun e w' => ∃ dv ok,e = .returned (.tuple #[dv,.bool ok])∧DecNew w w' dv l∧Upd [] w w':=by
 refine (zd1 a len cap l w hlen hI).mono ?_;rintro e w' ⟨hU,⟨hk,rfl⟩ | ⟨hk3,hk0,d,v,rfl,hD,hd,hv⟩⟩
 · exact ⟨_,_,rfl,.inl ⟨rfl,hk⟩,hU⟩
 · exact ⟨_,_,rfl,.inr ⟨hk3,hk0,d,v,rfl,hD,hd,hv⟩,hU⟩
theorem zfm {x b sym:Nat} {dv v:Value} {l2:List Int} {w:World} {s:ByteArray} {a:Nat} {out:List Nat} {most:Nat} {out':List Nat} {a':Nat} (h:StAt w x b v s a out most) (hs:s.size≤1099511627776) (hD:DecFor w dv l2 b) (hsym:sym≤1000) (hl2:l2.length≤300) (hc:Ju l2 s most sym out a = .ok (out',a')) :
 Calls Tryz.prog 274 #[.pointer (some ⟨x,0,none⟩),.int .i64 (sym:Nat),dv] w fun e w'=>e = .returned (.tuple #[]) ∧ ∃ v',StAt w' x b v' s a' out' most∧Upd (yV x b v) w w'∧Later w v v':=by
 have:=YC x b sym dv v l2 w s a out most h hs hD hsym hl2;rwa [hc] at this
theorem zcp {x b sym:Nat} {dv v:Value} {l2:List Int} {w:World} {s:ByteArray} {a:Nat} {out:List Nat} {most c:Nat} (h:StAt w x b v s a out most) (hs:s.size≤1099511627776) (hD:DecFor w dv l2 b) (hsym:sym≤1000) (hl2:l2.length≤300) (hc:Ju l2 s most sym out a = .error c) :
 Calls Tryz.prog 274 #[.pointer (some ⟨x,0,none⟩),.int .i64 (sym:Nat),dv] w fun e w'=>e = .panicked [{ v := .iface 29 (.int .i64 (c:Nat)),recovered:=false }]∧Upd (yV x b v) w w':=by
 have:=YC x b sym dv v l2 w s a out most h hs hD hsym hl2;rwa [hc] at this
def SymsRel (w0 w:World) (x b:Nat) (v0 v:Value) (s:ByteArray) (a:Nat) (out:List Nat) (most:Nat):Prop :=
 StAt w x b v s a out most∧Upd (yV x b v0) w0 w∧Later w0 v0 v
theorem SymsRel.next {w0 w w':World} {x b:Nat} {v0 v v':Value} {s:ByteArray} {a a':Nat} {out out':List Nat} {most:Nat} (h:SymsRel w0 w x b v0 v s a out most) (hS:StAt w' x b v' s a' out' most) (hU:Upd (yV x b v) w w') (hT:Later w v v'):SymsRel w0 w' x b v0 v' s a' out' most :=
 ⟨hS,h.2.1.trans hU (fun k hk=>by
  simp only [yV,List.mem_cons] at hk ⊢;rcases hk with hk | hk | hk
  · exact .inl (.inl hk)
  · exact .inl (.inr (.inl hk))
  · exact (h.2.2.fp k hk).imp (fun h => .inr (.inr h)) id),h.2.2.trans h.2.1.size hT⟩
theorem SymsRel.read {w0 w w':World} {x b:Nat} {v0 v:Value} {s:ByteArray} {a a':Nat} {out:List Nat} {most:Nat} (h:SymsRel w0 w x b v0 v s a out most) (hU:Upd [b] w w') (hR:RdAt w' b 292 s a' false):SymsRel w0 w' x b v0 v s a' out most :=
 ⟨h.1.read hU hR,h.2.1.then (yp hU),h.2.2⟩
theorem ziu {w:World} {x b:Nat} {v:Value} {s:ByteArray} {a:Nat} {out:List Nat} {most:Nat} (h:StAt w x b v s a out most) : ∀ k∈yV x b v,k<w.heap.size:=by
 intro k hk;simp only [yV,List.mem_cons,Option.mem_toList] at hk;rcases hk with hk | hk | hk
 · rw [hk]; exact h.blk.lt
 · rw [hk]; exact h.rd.1.lt
 · exact h.row.lt k hk
theorem ZO (x b F:Nat) (a1 a2:Option Addr) (n1 c1 n2 c2:Nat) (v:Value) (l1 l2:List Int) (w:World) (s:ByteArray) (a:Nat) (out:List Nat) (most:Nat) (h:StAt w x b v s a out most) (hs:s.size≤1099511627776)
 (hI1:IntsIn w a1 n1 l1) (hI2:IntsIn w a2 n2 l2) (hl1:l1.length≤300) (hl2:l2.length≤300) (hF:8*s.size<F+a) :
 Calls Tryz.prog 232 #[.pointer (some ⟨x,0,none⟩),.slice a1 n1 c1,.slice a2 n2 c2] w (YB w x b v s most (.tuple #[]) (yT l1 l2 s most F out a)):=by
 have hn1:=hI1.len;have hn2:=hI2.len;obtain ⟨i1,hi1,hy0,hy1,hy2⟩:=info_parts Wl;go_enter Tryz.func232,Tryz.ntmps232;go_wp2_with fail
 refine (zdJ a1 n1 c1 l1 w (by omega) hI1).mono ?_;rintro e w1 ⟨dv1,ok1,rfl,hD1,hU1⟩;go_wp2_with fail
 refine (zdJ a2 n2 c2 l2 w1 (by omega) (hI2.pure hU1)).mono ?_;rintro e w2 ⟨dv2,ok2,rfl,hD2,hU2⟩;have hU02:Upd [] w w2:=hU1.then hU2;have hD1':=hD1.upd hU2 (by simp);have hD2':=hD2.back hU1.size;have h2:=h.pure hU02;have hfp:=ziu h;clear hD1 hD2 hU1 hU2 hI1 hI2;have HF:=Hi hU02;clear hU02;go_wp2;go_loopg [10] F (fun gg s10 wr => ∃ g out' a' v',gg=g∧Hid (yT l1 l2 s most F out a=yT l1 l2 s most g out' a')∧8*s.size<g+a'∧SymsRel w2 wr x b v v' s a' out' most)
 case atStart=>exact ⟨F,out,a,v,rfl,Hi rfl,hF,h2,.refl _ _,.refl _ _⟩
 case round =>
  obtain ⟨g,out',a',v',hgg,HE,hg,hSt⟩:=hrel;have hrd:=hSt.1.rd.2;generalize hCP:yT l1 l2 s most F out a=CP at *;clear hCP h2;obtain ⟨g,rfl⟩ : ∃ g',g=g'+1:=⟨g-1,by omega⟩;subst hgg;have hE:CP=(yk l1 s a' >>= qv l2 s most (yT l1 l2 s most g) out'):=HE.out;have cc:=hSt.1.blk.cell 0 rfl;have hDa:=(hD1'.upd hSt.2.1 hfp).for (b:=b) (hfp b (by simp [yV]));rcases Ja l1 s a' hrd with ⟨sym,a3,hsym,ha3,_,hn⟩ | ⟨c,_,hn⟩
  · have hadv:=jB hn;rw [hn] at hE;have hE':CP=qv l2 s most (yT l1 l2 s most g) out' (sym,a3):=hE;unfold qv at hE';simp only at hE';clear hE HE;have HE':=Hi hE';clear hE';(go_wp2_with fail);refine (XD hSt.1.rd hs hDa hn).mono ?_;rintro e w4 ⟨rfl,hR4,hU4⟩;have hSt4:=hSt.read hU4 hR4;clear hn;have hE':=HE'.out;clear HE';by_cases hs1:sym=256
    · have hsf:((sym:Int)==256)=true:=(by rw [hs1]; rfl);rw [if_pos hs1] at hE';have HE:=Hi hE';clear hE' hs1;go_wp2;go_returns;rw [HE.out];exact ⟨rfl,v',hSt4.1,(vk HF.out).then hSt4.2.1,hSt4.2.2.imp id fun ⟨g,h1,h2⟩=>⟨g,h1,Nat.le_trans HF.out.size h2⟩⟩
    · have hsf:((sym:Int)==256)=false:=(by simp; omega);rw [if_neg hs1] at hE';by_cases hs2:sym<256
      · have hlf:decide ((sym:Int)<256)=true:=decide_eq_true (by omega);rw [if_pos hs2] at hE';by_cases hroom:out'.length+1≤most
        · rw [if_pos hroom] at hE';have HE:=Hi hE';clear hE';(go_wp2_with fail);refine (XA x b 1 v' _ s _ out' most hSt4.1 hroom).mono ?_;rintro e w8 ⟨rfl,k8,rfl⟩;have hSt8:SymsRel w2 (w4.drewN k8) x b v v' s a3 out' most:=⟨hSt4.1.pure ((Upd.refl [] _).drewN k8),hSt4.2.1.drewN k8,hSt4.2.2⟩;clear hSt4 hSt hR4 hU4 cc hDa;generalize w4.drewN k8=w8 at *;obtain ⟨va,vc,rfl⟩:=hSt8.1.row.form;have hrow:=hSt8.1.row;have hblk:=hSt8.1.blk;have hcap:=hSt8.1.cap;have c1:=hblk.cell 1 rfl;have f1:=hblk.frz 1;have ca1:=(hblk.alloc (Obj.cells #[.int .u8 (sym:Nat)] 5)).cell 1 rfl;have hN63:out'.length+1≤maxLen:=(by unfold maxLen; omega);have hNb:(out'.length+1)*1≤140737488355328:=(by omega);have e8:IntKind.u8.wrap (sym:Int)=(sym:Int):=(by rw [IntKind.wrap_u8]; omega);have hfx:x∉(Value.slice va out'.length vc).ownBlock.toList:=(by have:=hSt8.1.vx; simpa [eq_comm] using this);(go_wp2_with (at_builtin; refine zH _ rfl _ _ 97 rfl 5 i1 _ 1 1 Tryz.underlying97 hi1 hy0 hy1 hy2 rfl (by omega) (.slice va out'.length vc) out'.length _ rfl (hrow.alloc _) ⟨w8.heap.size,0,none⟩ 1 1 [_] rfl rfl (World.news_of_block (cs := #[_]) (t:=5) (fr:=(0,0)) (heap_alloc_new _ _)) (by simp [Value.oneCell']) hN63 hNb ?_));rintro v9 w9 hR9 hU9 hT9;obtain ⟨va9,vc9,rfl⟩:=hR9.form;have hB9:=(hblk.alloc _).upd hU9 hfx;have k9:=hB9.cell 1 rfl;have f9:=hB9.frz 1;(all_goals go_wp2);(all_goals go_roundg g);all_goals first
           | omega
           | (obtain ⟨hS9,hU',hT'⟩:=hSt8.1.push ((Upd.refl _ _).alloc _) [sym] hR9 hU9 hT9 (by simp; omega) (by simpa using hs2)
              exact ⟨g,_,a3,_,rfl,HE,by omega,hSt8.next hS9 hU' hT'⟩)
        · rw [if_neg hroom] at hE';have HE:=Hi hE';clear hE';(go_wp2_with fail);refine (Wo x b 1 v' _ s _ out' most hSt4.1 hroom (by omega)).mono ?_;rintro e w8 ⟨rfl,k8,rfl⟩;go_wp2;rw [HE.out];exact ⟨rfl,rfl,((vk HF.out).then hSt4.2.1).drewN k8⟩
      · have hlf:decide ((sym:Int)<256)=false:=decide_eq_false (by omega);rw [if_neg hs2] at hE';have hDb:=(hD2'.upd hSt4.2.1 hfp).for (b:=b) (hfp b (by simp [yV]));cases hcp:Ju l2 s most sym out' a3 with
        | error c =>
          rw [hcp] at hE';have HE:=Hi (show CP = .error c from hE');clear hE';(go_wp2_with fail);refine (zcp hSt4.1 hs hDb (by omega) hl2 hcp).mono ?_;rintro e w8 ⟨rfl,hU8⟩;go_wp2;rw [HE.out];exact ⟨rfl,rfl,(vk HF.out).then (hSt4.2.1.trans hU8 (fun k hk=>by
           simp only [yV,List.mem_cons] at hk ⊢;rcases hk with hk | hk | hk
           · exact .inl (.inl hk)
           · exact .inl (.inr (.inl hk))
           · exact (hSt4.2.2.fp k hk).imp (fun h => .inr (.inr h)) id))⟩
        | ok q =>
          obtain ⟨o5,a5⟩:=q;rw [hcp] at hE';have HE:=Hi (show CP=yT l1 l2 s most g o5 a5 from hE');have hadv5:=Vo hcp;clear hE';(go_wp2_with fail);refine (zfm hSt4.1 hs hDb (by omega) hl2 hcp).mono ?_;rintro e w8 ⟨rfl,v8,hS8,hU8,hT8⟩;go_wp2;go_roundg g
          · exact ⟨g,o5,a5,v8,rfl,HE,by omega,hSt4.next hS8 hU8 hT8⟩
          · omega
  · rw [hn] at hE;have HE:=Hi (show CP = .error c from hE);clear hE;(go_wp2_with fail);refine (QZ hSt.1.rd hs hDa hn).mono ?_;rintro e w4 ⟨rfl,hU4⟩;go_wp2;rw [HE.out];exact ⟨rfl,rfl,(vk HF.out).then (hSt.2.1.then (yp hU4))⟩
end Go.Proofs.YtfkenhihcmmgkaaGreatDoor
