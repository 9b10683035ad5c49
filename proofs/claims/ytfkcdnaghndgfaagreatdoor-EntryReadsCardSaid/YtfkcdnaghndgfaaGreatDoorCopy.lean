/- Package inflate: a copy: plain, and its walk. -/
import Derived.Test.YtfkcdnaghndgfaaGreatDoorQAJ
set_option linter.unusedVariables false
set_option linter.unusedSimpArgs false
set_option linter.unusedSectionVars false
namespace Go.Proofs.YtfkcdnaghndgfaaGreatDoor
open Go.RowKit
def yz (far:Nat):Nat→List Nat→List Nat
 | 0,out=>out
 | n+1,out=>yz far n (out++[out.getD (out.length-far) 0])
theorem vj (far n:Nat) (out:List Nat):(yz far n out).length=out.length+n:=by
 induction n generalizing out with
 | zero=>rfl
 | succ n ih=>simp only [yz,ih]; simp; omega
theorem Yy (far n:Nat) (out:List Nat):yz far (n+1) out=yz far n out++[(yz far n out).getD ((yz far n out).length-far) 0]:=by
 induction n generalizing out with
 | zero=>rfl
 | succ n ih=>rw [yz,ih]; rfl
def qv (most long:Nat) (out:List Nat) (code a:Nat) (r:Nat×Nat):Except Nat (List Nat×Nat) :=
 match jY 1 2 4 30 (code:Nat) (r.1:Nat) with
 | none => .error 2
 | some far=>if far≤out.length then (if out.length+long≤most then .ok (yz far long out,r.2) else .error 4) else .error 2
def xH (s:ByteArray) (most long:Nat) (out:List Nat) (r:Nat×Nat):Except Nat (List Nat×Nat) :=
 if yJ (r.1:Nat)<0 then .error 2 else zp s r.2 (yJ (r.1:Nat)).toNat >>= qv most long out r.1 r.2
def xd (l2:List Int) (s:ByteArray) (most sym:Nat) (out:List Nat) (r:Nat×Nat):Except Nat (List Nat×Nat) :=
 match xq (sym:Nat) (r.1:Nat) with
 | none => .error 2
 | some long=>yc l2 s r.2 >>= xH s most long out
def Jl (l2:List Int) (s:ByteArray) (most sym:Nat) (out:List Nat) (a:Nat):Except Nat (List Nat×Nat) :=
 if zT (sym:Nat)<0 then .error 2 else zp s a (zT (sym:Nat)).toNat >>= xd l2 s most sym out
def yO (x b:Nat) (v:Value):List Nat:=x::b::v.ownBlock.toList
def XT (w:World) (x b:Nat) (v:Value) (s:ByteArray) (most:Nat) (ret:Value) (r:Except Nat (List Nat×Nat)) (e:Ending) (w':World):Prop :=
 match r with
 | .ok (out,a')=>e = .returned ret ∧ ∃ v',StAt w' x b v' s a' out most∧Upd (yO x b v) w w'∧Later w v v'
 | .error c=>e = .panicked [{ v := .iface 27 (.int .i64 (c:Nat)),recovered:=false }]∧Upd (yO x b v) w w'
theorem zg9 (n:Int):zT n≤32:=by
 unfold zT zw
 split
 · omega
 · split
   · omega
   · split
     · omega
     · split
       · omega
       · have:(n-257-(8:Nat))/(4:Nat)≤20:=by omega
         omega
theorem zgG (n:Int):yJ n≤32:=by
 unfold yJ zw
 split
 · omega
 · split
   · omega
   · have:(n-(4:Nat))/(2:Nat)≤20:=by omega
     omega
theorem Wz {n more:Int} {v:Nat} (h:xq n more=some v):v≤258:=by
 unfold xq at h
 split at h
 · split at h
   · cases h; omega
   · cases h
 · split at h
   · cases h
   · split at h
     · split at h
       · cases h
       · cases h; omega
     · cases h
theorem zhO (B G F M k:Nat):B≤ja B G F M k:=by
 induction k with
 | zero=>exact Nat.le_refl _
 | succ k ih=>exact Nat.le_trans ih (Nat.le_add_right _ _)
theorem zdq {B G F M:Nat} {k more:Int} {v:Nat} (h:jY B G F M k more=some v):B≤v:=by
 unfold jY at h
 split at h
 · cases h
 · cases h; have:=zhO B G F M k.toNat; omega
theorem StAt.read {w w':World} {x b:Nat} {v:Value} {s:ByteArray} {a a':Nat} {out:List Nat} {most:Nat} (h:StAt w x b v s a out most) (hU:Upd [b] w w') (hR:RdAt w' b 194 s a' false):StAt w' x b v s a' out most :=
 { h with blk:=h.blk.upd hU (by have:=h.xb; simpa using this),row:=Row.upd h.row hU (fun k hk hm=>by simp at hm; exact h.vb (by rw [hk,hm])),rd:=hR }
theorem StAt.pure {w w':World} {x b:Nat} {v:Value} {s:ByteArray} {a:Nat} {out:List Nat} {most:Nat} (h:StAt w x b v s a out most) (hU:Upd [] w w'):StAt w' x b v s a out most :=
 { h with blk:=h.blk.upd hU (by simp),row:=Row.upd h.row hU (by simp),rd:=h.rd.upd hU (by simp) }
theorem yj {w w':World} {x b:Nat} {v:Value} (h:Upd [b] w w'):Upd (yO x b v) w w':=h.mono (fun k hk => .inl (by simp at hk; simp [yO,hk]))
theorem kR {w w':World} {x b:Nat} {v:Value} (h:Upd [] w w'):Upd (yO x b v) w w':=h.mono (by simp)
theorem StAt.push {wr wm w9:World} {x b:Nat} {v v9:Value} {s:ByteArray} {a:Nat} {out:List Nat} {most:Nat} (h:StAt wr x b v s a out most) (hm:Upd [] wr wm) {n:Nat} (ys:List Nat) (hR:Row w9 5 1 v9 n (u8s out++u8s ys)) (hU:Upd v.ownBlock.toList wm w9) (hT:Later wm v v9) (hle:out.length+ys.length≤most) (hlt : ∀ y∈ys,y<256) :
 StAt (w9.setCell ⟨x,1,none⟩ v9) x b v9 s a (out++ys) most∧Upd (yO x b v) wr (w9.setCell ⟨x,1,none⟩ v9)∧Later wr v v9:=by
 have hT':Later wr v v9:=hT.imp id fun ⟨g,h1,h2⟩=>⟨g,h1,Nat.le_trans hm.size h2⟩
 have hUw:Upd (yO x b v) wr w9:=(hm.mono (by simp)).then (hU.mono fun k hk => .inl (by simp [yO,hk]))
 have hx:x∉v.ownBlock.toList:=by have:=h.vx; simpa [eq_comm] using this
 have hb:b∉v.ownBlock.toList:=by have:=h.vb; simpa [eq_comm] using this
 have hxlt:=h.blk.lt
 have hblt:=h.rd.1.lt
 have hvx:=hT'.ne hxlt h.vx
 have hvb:=hT'.ne hblt h.vb
 have hn:n=(out++ys).length:=by have:=hR.len; simp [jK] at this ⊢; omega
 have hB9:=(h.blk.upd hm (by simp)).upd hU hx
 have hR':=(h.rd.upd hm (by simp)).upd hU hb
 refine ⟨⟨hB9.set 1 v9,?_,hR'.upd ((Upd.refl [x] w9).setCell (.inl (by simp)) v9) (by have:=h.xb; simp; omega),hvx,hvb,h.xb,by simpa using hle,h.cap,?_⟩,hUw.setCell (.inl (by simp [yO])) v9,hT'⟩
 · rw [kX,← hn]; exact hR.setFar v9 hvx
 · intro y hy
   rcases List.mem_append.1 hy with hy | hy
   · exact h.lt y hy
   · exact hlt y hy
theorem zbc {wr w8 wm w9:World} {x b:Nat} {v0 v9:Value} {s:ByteArray} {a g vc' q far i long y most:Nat} {M out:List Nat}
 (hSt:StAt wr x b (.slice (some ⟨g,0,none⟩) M.length vc') s a M most) (hq:M.length=q+far) (hm:Upd [] wr wm)
 (hR9:Row w9 5 1 v9 (q+far+1) (u8s M++[.int .u8 (y:Nat)])) (hU9:Upd (Value.slice (some ⟨g,0,none⟩) (q+far) vc').ownBlock.toList wm w9) (hT9:Later wm (.slice (some ⟨g,0,none⟩) (q+far) vc') v9)
 (hlen:M.length=out.length+i) (hroom:out.length+long≤most) (hi:i<long) (hy:y<256) (hUr:Upd (yO x b v0) w8 wr) (hTr:Later w8 v0 (.slice (some ⟨g,0,none⟩) M.length vc')) (hsn:Hid (yz far (i+1) out=M++[y])) :
 ∃ i' v',i'≤long∧long-(i+1)=long-i'∧Value.int .i64 ((i:Int)+1) = .int .i64 (i':Nat)∧StAt (w9.setCell ⟨x,1,none⟩ v9) x b v' s a (yz far i' out) most∧Upd (yO x b v0) w8 (w9.setCell ⟨x,1,none⟩ v9)∧Later w8 v0 v':=by
 rw [← hq] at hR9 hU9 hT9
 obtain ⟨hS9,hU',hT'⟩:=hSt.push hm [y] hR9 hU9 hT9 (by simp; omega) (by simpa using hy)
 refine ⟨i+1,v9,by omega,rfl,rfl,?_,?_,?_⟩
 · rw [hsn.out]; exact hS9
 · exact hUr.trans hU' (fun k hk=>by
    simp only [yO,List.mem_cons] at hk ⊢
    rcases hk with hk | hk | hk
    · exact .inl (.inl hk)
    · exact .inl (.inr (.inl hk))
    · exact (hTr.fp k hk).imp (fun h => .inr (.inr h)) id)
 · exact hTr.trans hUr.size hT'
set_option maxRecDepth 100000 in
set_option maxHeartbeats 6400000 in
theorem XO (x b sym:Nat) (dv v:Value) (l2:List Int) (w:World) (s:ByteArray) (a:Nat) (out:List Nat) (most:Nat) (h:StAt w x b v s a out most) (hs:s.size≤1099511627776) (hD:DecFor w dv l2 b) (hsym:sym≤1000) (hl2:l2.length≤300) :
 Calls Tryz.prog 179 #[.pointer (some ⟨x,0,none⟩),.int .i64 (sym:Nat),dv] w (XT w x b v s most (.tuple #[]) (Jl l2 s most sym out a)):=by
 have HS:=Lib.hid (show Jl l2 s most sym out a=if zT (sym:Nat)<0 then .error 2 else zp s a (zT (sym:Nat)).toNat >>= xd l2 s most sym out by rfl)
 generalize Jl l2 s most sym out a=CP at *
 have HLB:=Lib.hid (Qe sym w (by omega))
 have hle:=zg9 (sym:Nat)
 have HLO:=Lib.hid (fun more w'=>zcm sym more w' (by omega))
 by_cases h1:zT (sym:Nat)<0
 · have hE:=HS.out
   rw [if_pos h1] at hE
   have HE:=Lib.hid hE
   have hf:decide (0≤zT (sym:Nat))=false:=decide_eq_false (by omega)
   clear hE HS
   generalize zT (sym:Nat)=lb at *
   go_enter Tryz.func179,Tryz.ntmps179
   go_wp2_with fail
   refine HLB.out.mono ?_
   rintro e w1 ⟨rfl,hU1⟩
   go_wp2_with fail
   refine (yR _).mono ?_
   rintro e w2 ⟨rfl,rfl⟩
   go_wp2
   rw [HE.out]
   exact ⟨rfl,rfl,kR hU1⟩
 · have hE:=HS.out
   rw [if_neg h1] at hE
   have HE:=Lib.hid hE
   have hf:decide (0≤zT (sym:Nat))=true:=decide_eq_true (by omega)
   obtain ⟨k,hk⟩ : ∃ k:Nat,zT (sym:Nat)=(k:Int):=⟨(zT (sym:Nat)).toNat,by omega⟩
   rw [hk] at HLB hle hf HE
   rw [Int.toNat_natCast] at HE
   clear hE HS h1 hk
   rcases zA s a k with ⟨t,ht,hta,htk⟩ | htk
   · have hE:=HE.out
     rw [htk] at hE
     have HE:=Lib.hid (show CP=xd l2 s most sym out (t,a+k) from hE)
     clear hE
     go_enter Tryz.func179,Tryz.ntmps179
     go_wp2_with fail
     refine HLB.out.mono ?_
     rintro e w1 ⟨rfl,hU1⟩
     have h1:=h.pure hU1
     have c1:=h1.blk.cell 0 rfl
     go_wp2_with fail
     refine (yw _).mono ?_
     rintro e w2 ⟨rfl,rfl⟩
     go_wp2_with fail
     refine (yV h1.rd hs (by omega) htk).mono ?_
     rintro e w2 ⟨rfl,hR2,hU2⟩
     have h2:=h1.read hU2 hR2
     have hD2:=(hD.upd (hU1.mono (by simp))).upd hU2
     have hUw2:Upd [b] w w2:=(hU1.mono (by simp)).then hU2
     have c2:=h2.blk.cell 0 rfl
     have hLo:=HLO.out (t:Nat) w2
     unfold jm at hLo
     cases hlo:xq (sym:Nat) (t:Nat) with
     | none =>
       have hE:=HE.out
       unfold xd at hE
       rw [hlo] at hE hLo
       have HE:=Lib.hid (show CP = .error 2 from hE)
       have HL:=Lib.hid (show Calls Tryz.prog 208 #[.int .i64 (sym:Nat),.int .i64 (t:Nat)] w2 fun e w'=>e = .returned (.tuple #[.int .i64 0,.bool false])∧Upd [] w2 w' from hLo)
       clear hE hLo hlo
       go_wp2_with fail
       refine HL.out.mono ?_
       rintro e w3 ⟨rfl,hU3⟩
       go_wp2_with fail
       refine (yR _).mono ?_
       rintro e w4 ⟨rfl,rfl⟩
       go_wp2
       rw [HE.out]
       exact ⟨rfl,rfl,yj (hUw2.then (hU3.mono (by simp)))⟩
     | some long =>
       have hE:=HE.out
       unfold xd at hE
       rw [hlo] at hE hLo
       have HE:=Lib.hid (show CP=(yc l2 s (a+k) >>= xH s most long out) from hE)
       have hlong:=Wz hlo
       have HL:=Lib.hid (show Calls Tryz.prog 208 #[.int .i64 (sym:Nat),.int .i64 (t:Nat)] w2 fun e w'=>e = .returned (.tuple #[.int .i64 (long:Nat),.bool true])∧Upd [] w2 w' from hLo)
       clear hE hLo hlo
       go_wp2_with fail
       refine HL.out.mono ?_
       rintro e w3 ⟨rfl,hU3⟩
       have h3:=h2.pure hU3
       have hD3:=hD2.upd (hU3.mono (by simp))
       have hUw3:Upd [b] w w3:=hUw2.then (hU3.mono (by simp))
       have c3:=h3.blk.cell 0 rfl
       go_wp2_with fail
       refine (yw _).mono ?_
       rintro e w4 ⟨rfl,rfl⟩
       rcases vT l2 s (a+k) hta with ⟨code,a4,hcode,ha4,_,hn⟩ | ⟨c,_,hn⟩
       · have hE:=HE.out
         rw [hn] at hE
         have HE:=Lib.hid (show CP=xH s most long out (code,a4) from hE)
         clear hE
         go_wp2_with fail
         refine (ZU h3.rd hs hD3 hn).mono ?_
         rintro e w4 ⟨rfl,hR4,hU4⟩
         have h4:=h3.read hU4 hR4
         have hUw4:Upd [b] w w4:=hUw3.then hU4
         clear h1 h2 h3 c1 c2 c3 hU1 hU2 hU3 hU4 hR2 hD2 hUw2 hUw3 HL HLO HLB hn
         have hbl:=zgG (code:Nat)
         have HBB:=Lib.hid (Qd (code:Nat) w4)
         have hEb:=HE.out
         unfold xH at hEb
         simp only at hEb
         by_cases hb1:yJ (code:Nat)<0
         · rw [if_pos hb1] at hEb
           have HE:=Lib.hid hEb
           have hbf:decide (0≤yJ (code:Nat))=false:=decide_eq_false (by omega)
           clear hEb
           generalize yJ (code:Nat)=bb at *
           go_wp2_with fail
           refine HBB.out.mono ?_
           rintro e w5 ⟨rfl,hU5⟩
           go_wp2_with fail
           refine (yR _).mono ?_
           rintro e w6 ⟨rfl,rfl⟩
           go_wp2
           rw [HE.out]
           exact ⟨rfl,rfl,yj (hUw4.then (hU5.mono (by simp)))⟩
         · rw [if_neg hb1] at hEb
           have hbf:decide (0≤yJ (code:Nat))=true:=decide_eq_true (by omega)
           obtain ⟨k2,hk2⟩ : ∃ k:Nat,yJ (code:Nat)=(k:Int):=⟨(yJ (code:Nat)).toNat,by omega⟩
           rw [hk2] at HBB hbl hbf hEb
           rw [Int.toNat_natCast] at hEb
           have HE:=Lib.hid hEb
           clear hEb hb1 hk2
           rcases zA s a4 k2 with ⟨r,hr,hra,htk⟩ | htk
           · have hE:=HE.out
             rw [htk] at hE
             have HE:=Lib.hid (show CP=qv most long out code a4 (r,a4+k2) from hE)
             clear hE
             go_wp2_with fail
             refine HBB.out.mono ?_
             rintro e w5 ⟨rfl,hU5⟩
             have h5:=h4.pure hU5
             have c5:=h5.blk.cell 0 rfl
             go_wp2_with fail
             refine (yw _).mono ?_
             rintro e w6 ⟨rfl,rfl⟩
             go_wp2_with fail
             refine (yV h5.rd hs (by omega) htk).mono ?_
             rintro e w6 ⟨rfl,hR6,hU6⟩
             have h6:=h5.read hU6 hR6
             have hUw6:Upd [b] w w6:=(hUw4.then (hU5.mono (by simp))).then hU6
             clear h5 h4 c5 hU5 hU6 hR6 hUw4 hR4 HBB htk
             have hBo:=zca (code:Nat) (r:Nat) w6
             unfold jm at hBo
             have hEc:=HE.out
             unfold qv at hEc
             simp only at hEc
             cases hbo:jY 1 2 4 30 (code:Nat) (r:Nat) with
             | none =>
               rw [hbo] at hEc hBo
               have HE:=Lib.hid (show CP = .error 2 from hEc)
               have HB:=Lib.hid (show Calls Tryz.prog 209 #[.int .i64 (code:Nat),.int .i64 (r:Nat)] w6 fun e w'=>e = .returned (.tuple #[.int .i64 0,.bool false])∧Upd [] w6 w' from hBo)
               clear hEc hBo hbo
               go_wp2_with fail
               refine HB.out.mono ?_
               rintro e w7 ⟨rfl,hU7⟩
               go_wp2_with fail
               refine (yR _).mono ?_
               rintro e w8 ⟨rfl,rfl⟩
               go_wp2
               rw [HE.out]
               exact ⟨rfl,rfl,yj (hUw6.then (hU7.mono (by simp)))⟩
             | some far =>
               rw [hbo] at hEc hBo
               have hfar1:=zdq hbo
               have HE:=Lib.hid (show CP=if far≤out.length then (if out.length+long≤most then .ok (yz far long out,a4+k2) else .error 4) else .error 2 from hEc)
               have HB:=Lib.hid (show Calls Tryz.prog 209 #[.int .i64 (code:Nat),.int .i64 (r:Nat)] w6 fun e w'=>e = .returned (.tuple #[.int .i64 (far:Nat),.bool true])∧Upd [] w6 w' from hBo)
               clear hEc hBo hbo
               go_wp2_with fail
               refine HB.out.mono ?_
               rintro e w7 ⟨rfl,hU7⟩
               have h7:=h6.pure hU7
               have hUw7:Upd [b] w w7:=hUw6.then (hU7.mono (by simp))
               obtain ⟨va,vc,rfl⟩:=h7.row.form
               have c7:=h7.blk.cell 1 rfl
               by_cases hfar:far≤out.length
               · have hff:decide ((far:Int)≤(out.length:Int))=true:=decide_eq_true (by omega)
                 have hfn:decide (far≤out.length)=true:=decide_eq_true (by omega)
                 have hE:=HE.out
                 rw [if_pos hfar] at hE
                 have HE:=Lib.hid hE
                 clear hE
                 go_wp2_with fail
                 refine (yw _).mono ?_
                 rintro e w8 ⟨rfl,rfl⟩
                 by_cases hroom:out.length+long≤most
                 · have hE:=HE.out
                   rw [if_pos hroom] at hE
                   have HE:=Lib.hid hE
                   clear hE
                   go_wp2_with fail
                   refine (Yp x b long _ _ s _ out most h7 hroom).mono ?_
                   rintro e w8 ⟨rfl,k8,rfl⟩
                   have h8:=h7.pure ((Upd.refl [] _).drewN k8)
                   have hUw8:Upd (yO x b (.slice va out.length vc)) w (w7.drewN k8):=yj (hUw7.drewN k8)
                   have hsz8:=hUw8.size
                   clear hUw7 hUw6 h7 h6 c7 HB hU7
                   generalize w7.drewN k8=w8 at *
                   go_wp2
                   go_loopg [66] long (fun g s66 wr => ∃ i v',i≤long∧g=long-i∧s66 = .int .i64 (i:Nat)∧StAt wr x b v' s (a4+k2) (yz far i out) most∧Upd (yO x b (.slice va out.length vc)) w8 wr∧Later w8 (.slice va out.length vc) v')
                   case atStart=>exact ⟨0,_,by omega,rfl,rfl,h8,.refl _ _,.refl _ _⟩
                   case round =>
                    obtain ⟨i,v',hi,rfl,rfl,hSt,hUr,hTr⟩:=hrel
                    by_cases hc:i<long
                    · have hcz:(i:Int)<(long:Int):=by omega
                      have hln:=vj far i out
                      have hsn:=Lib.hid (Yy far i out)
                      have hle':=hSt.le
                      have hcap:=hSt.cap
                      have hlt':=hSt.lt
                      generalize yz far i out=M at *
                      obtain ⟨q,hq⟩ : ∃ q,M.length=q+far:=⟨M.length-far,by omega⟩
                      obtain ⟨g,vc',rfl,hg1,hg2⟩:=hSt.row.form' (by omega)
                      have c1:=hSt.blk.cell 1 rfl
                      have f1:=hSt.blk.frz 1
                      have hMq:M[q]? =some (M.getD q 0):=by rw [List.getD,List.getElem?_eq_getElem (by omega)]; rfl
                      have d1:=Row.cell hSt.row q (u := .int .u8 (M.getD q 0:Nat)) (by rw [u8s,List.getElem?_map,hMq]; rfl)
                      have hqf:M.length-far=q:=by omega
                      rw [hqf] at hsn
                      have hy256:M.getD q 0<256:=by rw [List.getD,List.getElem?_eq_getElem (by omega)]; exact hlt' _ (List.getElem_mem _)
                      clear hMq hqf
                      generalize M.getD q 0=y at *
                      obtain ⟨i1,hi1,hy0,hy1,hy2⟩:=info_parts Za
                      have hN63:M.length+1≤maxLen:=by unfold maxLen; omega
                      have hNb:(M.length+1)*1≤140737488355328:=by omega
                      have hq0:(0:Int)≤(q:Int):=by omega
                      have hqN:(q:Int)<(q:Int)+(far:Int):=by omega
                      have e1:IntKind.i64.wrap (q:Int)=(q:Int):=IntWalk.i64_in _ (by omega)
                      have hfx:x∉(Value.slice (some ⟨g,0,none⟩) M.length vc').ownBlock.toList:=by have:=hSt.vx; simpa [eq_comm] using this
                      have hrow:=hSt.row
                      have hblk:=hSt.blk
                      rw [hq] at hrow hblk hN63 hNb hfx c1
                      have ca1:=(hblk.alloc (Obj.cells #[.int .u8 (y:Nat)] 5)).cell 1 rfl
                      have da1:=Lib.cell?_alloc_some (Obj.cells #[.int .u8 (y:Nat)] 5) d1
                      go_wp2
                      go_region_law ((refine je _ (by rfl) _ _ 75 (by rfl) 5 i1 _ 1 1 Tryz.underlying75 hi1 hy0 hy1 hy2 rfl (by omega) (.slice (some ⟨g,0,none⟩) (q+far) vc') (q+far) _ (by rfl) (Row.alloc (Row.drew hrow) _) ⟨wr.heap.size,0,none⟩ 1 1 [_] (by rfl) (by rfl) (World.news_of_block (cs := #[_]) (t:=5) (fr:=(0,0)) (heap_alloc_new _ _)) (by simp [Value.oneCell']) hN63 hNb ?_; intro v9 w9 hR9 hU9 hT9; obtain ⟨va9,vc9,rfl⟩:=hR9.form; have hB9:=(hblk.drew.alloc _).upd hU9 hfx; have k9:=hB9.cell 1 rfl; have f9:=hB9.frz 1))
                      all_goals clear ca1 da1 hB9 k9 f9 c1 f1 d1
                      all_goals go_wp2
                      all_goals go_roundg (long-(i+1))
                      all_goals first | omega | exact zbc hSt hq (by first | exact ((Upd.refl _ _).alloc _).drew | exact ((Upd.refl _ _).drew.alloc _)) hR9 hU9 hT9 hln hroom hc hy256 hUr hTr hsn
                    · have hcz : ¬ (i:Int)<(long:Int):=by omega
                      have hil:i=long:=by omega
                      subst hil
                      go_wp2
                      go_returns
                      rw [HE.out]
                      exact ⟨rfl,v',hSt,hUw8.then hUr,hTr.imp id fun ⟨g,h1,h2⟩=>⟨g,h1,Nat.le_trans hsz8 h2⟩⟩
                 · have hE:=HE.out
                   rw [if_neg hroom] at hE
                   have HE:=Lib.hid hE
                   clear hE
                   go_wp2_with fail
                   refine (KP x b long _ _ s _ out most h7 hroom (by omega)).mono ?_
                   rintro e w8 ⟨rfl,k8,rfl⟩
                   go_wp2
                   rw [HE.out]
                   exact ⟨rfl,rfl,yj (hUw7.drewN k8)⟩
               · have hff:decide ((far:Int)≤(out.length:Int))=false:=decide_eq_false (by omega)
                 have hfn:decide (far≤out.length)=false:=decide_eq_false (by omega)
                 have hE:=HE.out
                 rw [if_neg hfar] at hE
                 have HE:=Lib.hid hE
                 clear hE
                 go_wp2_with fail
                 refine (yR _).mono ?_
                 rintro e w8 ⟨rfl,rfl⟩
                 go_wp2
                 rw [HE.out]
                 exact ⟨rfl,rfl,yj hUw7⟩
           · have hE:=HE.out
             rw [htk] at hE
             have HE:=Lib.hid (show CP = .error 3 from hE)
             clear hE
             go_wp2_with fail
             refine HBB.out.mono ?_
             rintro e w5 ⟨rfl,hU5⟩
             have h5:=h4.pure hU5
             have c5:=h5.blk.cell 0 rfl
             go_wp2_with fail
             refine (yw _).mono ?_
             rintro e w6 ⟨rfl,rfl⟩
             go_wp2_with fail
             refine (xe h5.rd hs (by omega) htk).mono ?_
             rintro e w6 ⟨rfl,hU6⟩
             go_wp2
             rw [HE.out]
             exact ⟨rfl,rfl,yj ((hUw4.then (hU5.mono (by simp))).then hU6)⟩
       · have hE:=HE.out
         rw [hn] at hE
         have HE:=Lib.hid (show CP = .error c from hE)
         clear hE
         go_wp2_with fail
         refine (QV h3.rd hs hD3 hn).mono ?_
         rintro e w4 ⟨rfl,hU4⟩
         go_wp2
         rw [HE.out]
         exact ⟨rfl,rfl,yj (hUw3.then hU4)⟩
   · have hE:=HE.out
     rw [htk] at hE
     have HE:=Lib.hid (show CP = .error 3 from hE)
     clear hE
     go_enter Tryz.func179,Tryz.ntmps179
     go_wp2_with fail
     refine HLB.out.mono ?_
     rintro e w1 ⟨rfl,hU1⟩
     have h1:=h.pure hU1
     have c1:=h1.blk.cell 0 rfl
     go_wp2_with fail
     refine (yw _).mono ?_
     rintro e w2 ⟨rfl,rfl⟩
     go_wp2_with fail
     refine (xe h1.rd hs (by omega) htk).mono ?_
     rintro e w2 ⟨rfl,hU2⟩
     go_wp2
     rw [HE.out]
     exact ⟨rfl,rfl,(kR hU1).then (yj hU2)⟩
end Go.Proofs.YtfkcdnaghndgfaaGreatDoor
