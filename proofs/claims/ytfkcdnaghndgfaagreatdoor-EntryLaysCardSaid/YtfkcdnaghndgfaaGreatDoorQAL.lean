/- Package swingleref13: Split, Right. -/
import Derived.Test.YtfkcdnaghndgfaaGreatDoorQAK
import Derived.Test.YtfkcdnaghndgfaaGreatDoorQAJ
set_option linter.unusedVariables false
set_option linter.unusedSimpArgs false
set_option linter.unusedSectionVars false
namespace Go.Proofs.YtfkcdnaghndgfaaGreatDoor
open Go.RowKit
theorem zhP:(Tryz.prog.info? 9).map (fun i=>(i.zero,i.size,i.bytes))=some (some (.string .empty),1,16):=by kernel_rfl
def zgW (l:List Nat):Value := .string (zd l)
theorem zcF (s:ByteArray) (cur:List Nat) (i:Nat) (h:i<s.size):zd cur++s.extract i (i+1)=zd (cur++[s[i].toNat]):=by
 rw [← xD]
 congr 1
 rw [← zu (s.extract i (i+1)),zI]
 congr 1
 rw [show i+1-i=1 by omega,List.drop_eq_getElem_cons (by rw [zc]; exact h),zM s i h]; rfl
set_option maxRecDepth 100000 in
set_option maxHeartbeats 4000000 in
theorem Kv (s:ByteArray) (w:World) (hs:s.size≤1100000):Calls Tryz.prog 90 #[.string s] w fun e w' =>
 ∃ g cap,e = .returned (.slice (some ⟨g,0,none⟩) (zh (za s)).length cap)∧w.heap.size≤g∧Row w' 9 1 (.slice (some ⟨g,0,none⟩) (zh (za s)).length cap) (zh (za s)).length ((zh (za s)).map zgW)∧Upd [] w w':=by
 obtain ⟨i0,hi,hz0,hz1,hz2⟩:=info_parts zhP
 go_enter Tryz.func90,Tryz.ntmps90
 go_wp2
 go_loopg [3,4,5] s.size (fun g v t c wr => ∃ (i:Nat) (done:List (List Nat)) (cur:List Nat),i≤s.size∧done.length≤i∧cur.length≤i∧t = .string (zd cur)∧c = .int .i64 (i:Nat)∧g=s.size-i∧Hid (zh (za s)=done++vV cur (zh ((za s).drop i)))∧Hid (Row wr 9 1 v done.length (done.map zgW))∧Hid (∀ b,v.ownBlock=some b→w.heap.size≤b)∧Hid (Upd [] w wr))
 case atStart=>exact ⟨0,[],[],Nat.zero_le _,Nat.zero_le _,Nat.zero_le _,rfl,rfl,rfl,Lib.hid (by rw [List.drop_zero,VN]; rfl),Lib.hid (Row.nil _ _ _),Lib.hid (by simp [Value.ownBlock]),Lib.hid (Upd.refl _ _)⟩
 case round =>
  obtain ⟨i,done,cur,hi1,hd,hcu,rfl,rfl,rfl,HS,HR,HB,HU⟩:=hrel
  obtain ⟨va,vc,hv⟩:=HR.out.form
  subst hv
  by_cases hc:i<s.size
  · have hbl:s[i].toNat<256:=s[i].toNat_lt
    have HC:=Lib.hid (zcF s cur i hc)
    have hdr:(za s).drop i=s[i].toNat::(za s).drop (i+1):=by
     rw [List.drop_eq_getElem_cons (by rw [zc]; exact hc),zM s i hc]
    have HD:=Lib.hid hdr
    have hsz:(zd cur).size=cur.length:=zo cur
    clear hdr
    by_cases h47:s[i].toNat=47
    · have t1:((s[i].toNat:Int)==47)=true:=by rw [beq_iff_eq]; omega
      have HS2:Hid (zh (za s)=(done++[cur])++vV [] (zh ((za s).drop (i+1)))):=Lib.hid (by rw [HS.out,HD.out,h47,WN]; simp)
      clear h47 HS HC HD
      go_wp2_with (at_builtin; refine zv _ rfl _ _ 115 rfl 9 i0 _ 1 16 Tryz.underlying115 hi hz0 hz1 hz2 rfl (by omega) (.slice va done.length vc) done.length _ rfl (HR.out.alloc _) ⟨wr.heap.size,0,none⟩ 1 1 [_] rfl rfl (World.news_of_block (cs := #[_]) (t:=9) (fr:=(0,0)) (heap_alloc_new _ _)) (by simp [Value.oneCell']) (by unfold maxLen; omega) (by omega) ?_)
      rintro v9 w9 hR9 hU9 hT9
      obtain ⟨va9,vc9,rfl⟩:=hR9.form
      have hB9 : ∀ b,(Value.slice va9 (done.length+1) vc9).ownBlock=some b→w.heap.size≤b:=fun b hb=>by
       have:=HU.out.size
       rcases hT9 with e | ⟨g,e1,e2⟩
       · exact HB.out b (by rw [← e]; exact hb)
       · rw [hb] at e1; simp at e1 e2; omega
      have HF:Hid (Row w9 9 1 (.slice va9 (done.length+1) vc9) (done++[cur]).length ((done++[cur]).map zgW)∧(∀ b,(Value.slice va9 (done.length+1) vc9).ownBlock=some b→w.heap.size≤b)∧Upd [] w w9):=Lib.hid ⟨by
       rw [List.length_append,List.map_append]; exact hR9,hB9,(HU.out.then ((Upd.refl _ _).alloc _)).trans hU9 (fun k hk => .inr (HB.out k (by simpa using hk)))⟩
      clear hR9 hU9 hT9 hB9 HR HB HU
      go_wp2
      go_roundg (s.size-(i+1))
      all_goals first
       | omega
       | exact ⟨i+1,done++[cur],[],by omega,by simp; omega,by simp,rfl,by go_num,rfl,HS2,Lib.hid HF.out.1,Lib.hid HF.out.2.1,Lib.hid HF.out.2.2⟩
    · have t1:((s[i].toNat:Int)==47)=false:=by rw [beq_eq_false_iff_ne]; omega
      have HS2:Hid (zh (za s)=done++vV (cur++[s[i].toNat]) (zh ((za s).drop (i+1)))):=Lib.hid (by rw [HS.out,HD.out,zbx _ _ _ h47])
      clear h47 HS HD
      go_wp2
      go_roundg (s.size-(i+1))
      all_goals first
       | omega
       | exact ⟨i+1,done,cur++[s[i].toNat],by omega,by omega,by simp; omega,by rw [HC.out],by go_num,rfl,HS2,HR,HB,HU⟩
  · have hlen:=zc s
    have HS2:Hid (zh (za s)=done++[cur]):=Lib.hid (by rw [HS.out,List.drop_of_length_le (by omega)]; simp [zh,vV])
    clear HS hlen
    go_wp2_with (at_builtin; refine zv _ rfl _ _ 115 rfl 9 i0 _ 1 16 Tryz.underlying115 hi hz0 hz1 hz2 rfl (by omega) (.slice va done.length vc) done.length _ rfl (HR.out.alloc _) ⟨wr.heap.size,0,none⟩ 1 1 [_] rfl rfl (World.news_of_block (cs := #[_]) (t:=9) (fr:=(0,0)) (heap_alloc_new _ _)) (by simp [Value.oneCell']) (by unfold maxLen; omega) (by omega) ?_)
    rintro v9 w9 hR9 hU9 hT9
    obtain ⟨g,cap,rfl,hg1,hg2⟩:=hR9.form' (by omega)
    have hB9:w.heap.size≤g:=by
     have:=HU.out.size
     rcases hT9 with e | ⟨g',e1,e2⟩
     · exact HB.out g (by rw [← e]; rfl)
     · simp [Value.ownBlock] at e1 e2; omega
    have HF:=Lib.hid hR9
    have HUU:=Lib.hid ((HU.out.then ((Upd.refl _ _).alloc _)).trans hU9 (fun k hk => .inr (HB.out k (by simpa using hk))))
    clear hR9 hU9 hT9 HR HB HU
    go_wp2
    go_ret
    refine ⟨g,cap,?_,hB9,?_,HUU.out⟩
    · rw [HS2.out,List.length_append]; rfl
    · rw [HS2.out,List.length_append,List.map_append]; exact HF.out
theorem zgV (l:List Nat):((zh l).map zgW)[0]? =some (.string (zd ((zh l).headD []))):=by
 rw [js l]; rfl
set_option maxRecDepth 100000 in
set_option maxHeartbeats 4000000 in
theorem VZ (s:ByteArray) (w:World) (hs:s.size≤1100000):Calls Tryz.prog 53 #[.string s] w fun e w'=>e = .returned (.bool (yi (za s)))∧Upd [] w w':=by
 have HSP:=Lib.hid (Kv s w hs)
 have hhd : ∀ x∈(zh (za s)).headD [],x<256:=kz s _ (by
  rw [js (za s)]; simp)
 have HQ:=Lib.hid (zgL _ hhd)
 have HLN:=Lib.hid (zc s)
 have HH:=Lib.hid (zgV (za s))
 have HLT:=Lib.hid (kz s)
 have hpl:=Xd (za s)
 rw [zc] at hpl
 have HPL:=Lib.hid (ke (za s))
 have hpos:0<(zh (za s)).length:=List.length_pos_iff.2 (VJ _)
 clear hhd
 go_enter Tryz.func53,Tryz.ntmps53
 go_wp2_with fail
 refine HSP.out.mono ?_
 rintro e w1 ⟨g,cap,rfl,hg,hR,hU⟩
 have HR:=Lib.hid hR
 have HU:=Lib.hid hU
 clear hR hU HSP
 obtain ⟨P,hP⟩ : ∃ P,zh (za s)=P:=⟨_,rfl⟩
 have HP:=Lib.hid hP
 rw [hP] at HR HQ HLT HPL HH hpos hpl ⊢
 clear hP
 by_cases h200:200<s.size
 · have HE:=Lib.hid (Zx (l:=za s) (by rw [HLN.out]; exact h200))
   go_wp2
   go_ret
   exact ⟨by rw [HE.out]; rfl,HU.out⟩
 · by_cases h12:12<P.length
   · have HE:=Lib.hid (Zy (l:=za s) (by rw [HP.out]; exact h12))
     go_wp2
     go_ret
     exact ⟨by rw [HE.out]; rfl,HU.out⟩
   · have c0:=HR.out.cell 0 HH.out
     by_cases hres:P.headD []=Qf
     · have HE:=Lib.hid (XD (l:=za s) (by rw [HP.out]; exact hres))
       have t1:=HQ.out.trans (decide_eq_true hres)
       clear hres
       generalize P.headD []=hd at *
       go_wp2
       go_ret
       exact ⟨by rw [HE.out]; rfl,HU.out⟩
     · have t1:=HQ.out.trans (decide_eq_false hres)
       have HNE:Hid ((zh (za s)).headD []≠Qf):=Lib.hid (by rw [HP.out]; exact hres)
       clear hres
       generalize P.headD []=hd at *
       go_wp2
       go_loopg [24] P.length (fun g' t wr => ∃ k:Nat,k≤P.length∧t = .int .i64 (k:Nat)∧g'=P.length-k∧Hid (∀ (i:Nat) p,i<k→P[i]? =some p→yg p=true)∧w1=wr)
       case atStart=>exact ⟨0,Nat.zero_le _,rfl,rfl,Lib.hid (fun i p h=>by omega),rfl⟩
       case round =>
        obtain ⟨k,hk,rfl,rfl,HA,rfl⟩:=hrel
        clear c0 t1
        by_cases hc:k<P.length
        · have hgk:(P.map zgW)[k]? =some (.string (zd P[k])):=by rw [List.getElem?_map,List.getElem?_eq_getElem hc]; rfl
          have ck:=HR.out.cell k hgk
          have hmem:P[k]∈P:=List.getElem_mem hc
          have hpz:(zd P[k]).size≤1100000:=by rw [zo]; have:=HPL.out _ hmem; have:=HLN.out; omega
          have HPT:=Lib.hid (fun w=>zfo (zd P[k]) w hpz)
          rw [zx _ (HLT.out _ hmem)] at HPT
          have HM:Hid (P[k]∈zh (za s)):=Lib.hid (by rw [HP.out]; exact hmem)
          have HGK:Hid (P[k]? =some P[k]):=Lib.hid (List.getElem?_eq_getElem hc)
          clear hgk hmem hpz
          obtain ⟨p,hp⟩ : ∃ p,P[k]=p:=⟨_,rfl⟩
          rw [hp] at ck HPT HM HGK
          clear hp
          cases hpo:yg p with
          | true =>
            rw [hpo] at HPT
            have HA2:Hid (∀ (i:Nat) p,i<k+1→P[i]? =some p→yg p=true):=Lib.hid (fun i q h1 h2=>by
             by_cases e:i=k
             · subst e; rw [HGK.out] at h2; simp at h2; subst h2; exact hpo
             · exact HA.out i q (by omega) h2)
            clear hpo HA HM HGK
            go_wp2_with (go_at_call 91; refine (HPT.out _).mono ?_; rintro e w' ⟨rfl,rfl⟩)
            go_roundg (P.length-(k+1))
            all_goals first
             | omega
             | exact ⟨k+1,by omega,by go_num,rfl,HA2,rfl⟩
          | false =>
            rw [hpo] at HPT
            have HE:=Lib.hid (Yl HM.out hpo)
            clear hpo HA HM HGK
            go_wp2_with (go_at_call 91; refine (HPT.out _).mono ?_; rintro e w' ⟨rfl,rfl⟩)
            go_ret
            exact ⟨by rw [HE.out]; rfl,HU.out⟩
        · have HE:Hid (yi (za s)=true):=Lib.hid (YA (by rw [HLN.out]; omega) HNE.out (by rw [HP.out]; omega) (fun p hp=>by
           rw [HP.out] at hp
           obtain ⟨i,hi,e⟩:=List.getElem_of_mem hp
           exact HA.out i p (by omega) (by rw [List.getElem?_eq_getElem hi,e])))
          clear HA
          go_wp2
          go_ret
          exact ⟨by rw [HE.out]; rfl,HU.out⟩
end Go.Proofs.YtfkcdnaghndgfaaGreatDoor
namespace Go.Proofs.YtfkcdnaghndgfaaGreatDoor
open Go.RowKit
def qN (l:List Nat):Bool:=decide (l.drop (l.length-1)=[47])
theorem Xp {l:List Nat} (h:qN l=true):1≤l.length:=by
 unfold qN at h
 have:=congrArg List.length (of_decide_eq_true h)
 rw [List.length_drop] at this; simp at this; omega
theorem zao (s:ByteArray) (h:0<s.size):qN (za s)=decide (s[s.size-1].toNat=47):=by
 unfold qN
 rw [zc,List.drop_eq_getElem_cons (by rw [zc]; omega),zM s _ (by omega),List.drop_of_length_le (by rw [zc]; omega)]
 simp
theorem zgv (s:ByteArray) (h:s.size=0):qN (za s)=false:=by
 unfold qN
 have:za s=[]:=List.eq_nil_of_length_eq_zero (by rw [zc]; exact h)
 rw [this]; rfl
def zS (l:List Nat):List Nat×Nat×Bool :=
 if qN l=true then (if yi (l.take (l.length-1))=true then (l.take (l.length-1),2,true) else ([],0,false))
 else if yi l=true∨l=Qf then (l,1,true) else ([],0,false)
def Yz (p:List Nat×Nat×Bool):Value := .tuple #[.string (zd p.1),.int .i64 (p.2.1:Nat),.bool p.2.2]
theorem ZZ {l:List Nat} (h : ∀ x∈l,x<256) : ∀ x∈(zS l).1,x<256:=by
 unfold zS
 repeat' split
 all_goals first
  | exact fun x hx=>h x (List.mem_of_mem_take hx)
  | exact h
  | (intro x hx; simp at hx)
set_option maxRecDepth 100000 in
theorem zcD (s:ByteArray) (w:World) (hs:s.size≤1000000):Calls Tryz.prog 167 #[.string s,.string { data := #[47] }] w fun e w'=>e = .returned (.bool (qN (za s)))∧w=w':=by
 by_cases h0:s.size=0
 · have HE:=Lib.hid (zgv s h0)
   go_enter Tryz.func167,Tryz.ntmps167
   go_wp2
   go_ret
   exact ⟨by rw [HE.out]; rfl,rfl⟩
 · have h1:1≤s.size:=by omega
   have HT:Hid (((s.extract (s.size-1) s.size).toList==[47])=qN (za s)):=Lib.hid (by
    rw [xC,vn]; unfold qN; rw [zc]; rfl)
   cases hb:qN (za s) with
   | true =>
     have t1:=HT.out.trans hb
     clear hb HT
     go_enter Tryz.func167,Tryz.ntmps167
     go_wp2
     go_ret
     exact ⟨rfl,rfl⟩
   | false =>
     have t1:=HT.out.trans hb
     clear hb HT
     go_enter Tryz.func167,Tryz.ntmps167
     go_wp2
     go_ret
     exact ⟨rfl,rfl⟩
def zbV (s:ByteArray):Value := .tuple #[.string (if qN (za s)=true then s.extract 0 (s.size-1) else s),.bool (qN (za s))]
theorem za6 {s:ByteArray} (h:qN (za s)=true):zbV s = .tuple #[.string (s.extract 0 (s.size-1)),.bool true]:=by unfold zbV; rw [h]; rfl
theorem zdu {s:ByteArray} (h:qN (za s)=false):zbV s = .tuple #[.string s,.bool false]:=by unfold zbV; rw [h]; rfl
theorem WE (s:ByteArray) (w:World) (hs:s.size≤1000000):Calls Tryz.prog 131 #[.string s,.string { data := #[47] }] w fun e w'=>e = .returned (zbV s)∧w=w':=by
 have HH:=Lib.hid (fun w=>zcD s w hs)
 cases hb:qN (za s) with
 | true =>
   have h1:1≤s.size:=by have:=Xp hb; rw [zc] at this; exact this
   have HV:=Lib.hid (za6 hb)
   rw [hb] at HH
   clear hb
   go_enter Tryz.func131,Tryz.ntmps131
   go_wp2_with (go_at_call 167; refine (HH.out _).mono ?_; rintro e w' ⟨rfl,rfl⟩)
   go_ret2
   exact ⟨by rw [HV.out]; rfl,rfl⟩
 | false =>
   have HV:=Lib.hid (zdu hb)
   rw [hb] at HH
   clear hb
   go_enter Tryz.func131,Tryz.ntmps131
   go_wp2_with (go_at_call 167; refine (HH.out _).mono ?_; rintro e w' ⟨rfl,rfl⟩)
   go_ret2
   exact ⟨by rw [HV.out]; rfl,rfl⟩
theorem zbA (s:ByteArray) (w:World) (hs:s.size≤1000000):Calls Tryz.prog 83 #[.string s,.string { data := #[47] }] w fun e w'=>e = .returned (zbV s)∧w=w':=by
 have HH:=Lib.hid (fun w=>WE s w hs)
 have HV:Hid (zbV s = .tuple #[.string (if qN (za s)=true then s.extract 0 (s.size-1) else s),.bool (qN (za s))]):=Lib.hid rfl
 rw [HV.out] at HH
 generalize (if qN (za s)=true then s.extract 0 (s.size-1) else s)=r at *
 generalize qN (za s)=b at *
 go_enter Tryz.func83,Tryz.ntmps83
 go_wp2_with (go_at_call 131; refine (HH.out _).mono ?_; rintro e w' ⟨rfl,rfl⟩)
 go_ret2
 exact ⟨by rw [HV.out]; rfl,rfl⟩
theorem VC {l:List Nat} (h:qN l=true) (hr:yi (l.take (l.length-1))=true):zS l=(l.take (l.length-1),2,true):=by unfold zS; rw [if_pos h,if_pos hr]
theorem XX {l:List Nat} (h:qN l=true) (hr:yi (l.take (l.length-1))=false):zS l=([],0,false):=by unfold zS; rw [if_pos h,hr]; rfl
theorem kK {l:List Nat} (h:qN l=false) (hr:yi l=true∨l=Qf):zS l=(l,1,true):=by unfold zS; rw [h,if_neg (by simp),if_pos hr]
theorem ZX {l:List Nat} (h:qN l=false) (hr : ¬ (yi l=true∨l=Qf)):zS l=([],0,false):=by unfold zS; rw [h,if_neg (by simp),if_neg hr]
theorem xN {l a:List Nat} {k:Nat} {b:Bool} (h:zS l=(a,k,b)):Yz (zS l) = .tuple #[.string (zd a),.int .i64 (k:Nat),.bool b]:=by rw [h]; rfl
theorem ziQ (s:ByteArray):(s.toList==[46,115,119,105,110,103,108,101])=decide (za s=Qf):=xC s _
set_option maxRecDepth 100000 in
set_option maxHeartbeats 4000000 in
theorem zhq (s:ByteArray) (w:World) (hs:s.size≤1000000):Calls Tryz.prog 44 #[.string s] w fun e w'=>e = .returned (Yz (zS (za s)))∧Upd [] w w':=by
 have HC:=Lib.hid (fun w=>zbA s w hs)
 have HR:=Lib.hid (fun w=>Js s w (by omega))
 have HQ:=Lib.hid (ziQ s)
 cases hb:qN (za s) with
 | true =>
   have h1:1≤s.size:=by have:=Xp hb; rw [zc] at this; exact this
   rw [za6 hb] at HC
   have HX:=Lib.hid (fun w=>Js (s.extract 0 (s.size-1)) w (by rw [ByteArray.size_extract]; omega))
   have he:za (s.extract 0 (s.size-1))=(za s).take ((za s).length-1):=by rw [zI,List.drop_zero,zc]; rfl
   rw [he] at HX
   have HST:Hid (s.extract 0 (s.size-1)=zd ((za s).take ((za s).length-1))):=Lib.hid (by rw [jD,zc])
   clear he HR
   cases hr:yi ((za s).take ((za s).length-1)) with
   | true =>
     have HV:=Lib.hid (xN (VC hb hr))
     rw [hr] at HX
     clear hb hr
     go_enter Tryz.func44,Tryz.ntmps44
     go_wp2_with fail
     refine (HC.out _).mono ?_
     rintro e w1 ⟨rfl,rfl⟩
     go_wp2_with fail
     refine (HX.out _).mono ?_
     rintro e w2 ⟨rfl,hU⟩
     go_wp2
     go_ret3
     exact ⟨by rw [HV.out,← HST.out]; rfl,hU⟩
   | false =>
     have HV:=Lib.hid (xN (XX hb hr))
     rw [hr] at HX
     clear hb hr
     go_enter Tryz.func44,Tryz.ntmps44
     go_wp2_with fail
     refine (HC.out _).mono ?_
     rintro e w1 ⟨rfl,rfl⟩
     go_wp2_with fail
     refine (HX.out _).mono ?_
     rintro e w2 ⟨rfl,hU⟩
     go_wp2
     go_ret3
     exact ⟨by rw [HV.out]; rfl,hU⟩
 | false =>
   rw [zdu hb] at HC
   have HST:=Lib.hid (zu s)
   cases hr:yi (za s) with
   | true =>
     have HV:=Lib.hid (xN (kK hb (.inl hr)))
     rw [hr] at HR
     clear hb hr
     go_enter Tryz.func44,Tryz.ntmps44
     go_wp2_with fail
     refine (HC.out _).mono ?_
     rintro e w1 ⟨rfl,rfl⟩
     go_wp2_with fail
     refine (HR.out _).mono ?_
     rintro e w2 ⟨rfl,hU⟩
     go_wp2
     go_ret3
     exact ⟨by rw [HV.out,HST.out]; rfl,hU⟩
   | false =>
     by_cases hq:za s=Qf
     · have t1:=HQ.out.trans (decide_eq_true hq)
       have HV:=Lib.hid (xN (kK hb (.inr hq)))
       rw [hr] at HR
       clear hb hr hq HQ
       go_enter Tryz.func44,Tryz.ntmps44
       go_wp2_with fail
       refine (HC.out _).mono ?_
       rintro e w1 ⟨rfl,rfl⟩
       go_wp2_with fail
       refine (HR.out _).mono ?_
       rintro e w2 ⟨rfl,hU⟩
       go_wp2_with (go_at_call 85; refine (jl _).mono ?_; rintro e w' ⟨rfl,rfl⟩)
       go_ret3
       exact ⟨by rw [HV.out,HST.out]; rfl,hU⟩
     · have t1:=HQ.out.trans (decide_eq_false hq)
       have HV:=Lib.hid (xN (ZX hb (by rw [hr]; simp [hq])))
       rw [hr] at HR
       clear hb hr hq HQ
       go_enter Tryz.func44,Tryz.ntmps44
       go_wp2_with fail
       refine (HC.out _).mono ?_
       rintro e w1 ⟨rfl,rfl⟩
       go_wp2_with fail
       refine (HR.out _).mono ?_
       rintro e w2 ⟨rfl,hU⟩
       go_wp2_with (go_at_call 85; refine (jl _).mono ?_; rintro e w' ⟨rfl,rfl⟩)
       go_ret3
       exact ⟨by rw [HV.out]; rfl,hU⟩
set_option maxRecDepth 100000 in
set_option maxHeartbeats 4000000 in
theorem QT (s:ByteArray) (w:World) (hs:s.size≤1100000):Calls Tryz.prog 23 #[.string s] w fun e w'=>e = .returned (Yz (zS (za s)))∧Upd [] w w':=by
 have HR:=Lib.hid (fun w=>VZ s w (by omega))
 have HQ:=Lib.hid (ziQ s)
 cases hb:qN (za s) with
 | true =>
   have h1:1≤s.size:=by have:=Xp hb; rw [zc] at this; exact this
   have h47:s[s.size-1].toNat=47:=by rw [zao s (by omega)] at hb; exact of_decide_eq_true hb
   have t47:((s[s.size-1].toNat:Int)==47)=true:=by rw [beq_iff_eq]; omega
   have HX:=Lib.hid (fun w=>VZ (s.extract 0 (s.size-1)) w (by rw [ByteArray.size_extract]; omega))
   have he:za (s.extract 0 (s.size-1))=(za s).take ((za s).length-1):=by rw [zI,List.drop_zero,zc]; rfl
   rw [he] at HX
   have HST:Hid (s.extract 0 (s.size-1)=zd ((za s).take ((za s).length-1))):=Lib.hid (by rw [jD,zc])
   clear he HR h47
   cases hr:yi ((za s).take ((za s).length-1)) with
   | true =>
     have HV:=Lib.hid (xN (VC hb hr))
     rw [hr] at HX
     clear hb hr
     go_enter Tryz.func23,Tryz.ntmps23
     go_wp2_with fail
     refine (HX.out _).mono ?_
     rintro e w2 ⟨rfl,hU⟩
     go_wp2
     go_ret3
     exact ⟨by rw [HV.out,← HST.out]; rfl,hU⟩
   | false =>
     have HV:=Lib.hid (xN (XX hb hr))
     rw [hr] at HX
     clear hb hr
     go_enter Tryz.func23,Tryz.ntmps23
     go_wp2_with fail
     refine (HX.out _).mono ?_
     rintro e w2 ⟨rfl,hU⟩
     go_wp2
     go_ret3
     exact ⟨by rw [HV.out]; rfl,hU⟩
 | false =>
   have HST:=Lib.hid (zu s)
   have ways:s.size=0∨(1≤s.size∧Hid (∃ h:s.size-1<s.size,(((s[s.size-1]'h).toNat:Int)==47)=false)):=by
    by_cases h0:s.size=0
    · exact .inl h0
    · refine .inr ⟨by omega,Lib.hid ⟨by omega,?_⟩⟩
      rw [zao s (by omega)] at hb
      have:=of_decide_eq_false hb
      rw [beq_eq_false_iff_ne]; omega
   cases hr:yi (za s) with
   | true =>
     have HV:=Lib.hid (xN (kK hb (.inl hr)))
     rw [hr] at HR
     clear hb hr
     rcases ways with h0 | ⟨h1,hw⟩
     · go_enter Tryz.func23,Tryz.ntmps23
       go_wp2_with fail
       refine (HR.out _).mono ?_
       rintro e w2 ⟨rfl,hU⟩
       go_wp2
       go_ret3
       exact ⟨by rw [HV.out,HST.out]; rfl,hU⟩
     · obtain ⟨hw1,t47⟩:=hw.out
       go_enter Tryz.func23,Tryz.ntmps23
       go_wp2_with fail
       refine (HR.out _).mono ?_
       rintro e w2 ⟨rfl,hU⟩
       go_wp2
       go_ret3
       exact ⟨by rw [HV.out,HST.out]; rfl,hU⟩
   | false =>
     by_cases hq:za s=Qf
     · have t1:=HQ.out.trans (decide_eq_true hq)
       have HV:=Lib.hid (xN (kK hb (.inr hq)))
       rw [hr] at HR
       have hz:s.size=8:=by rw [← zc s,hq]; rfl
       have HZ:=Lib.hid hz
       have h1:1≤s.size:=by omega
       obtain ⟨hw1,t47⟩ : ∃ h:s.size-1<s.size,(((s[s.size-1]'h).toNat:Int)==47)=false:=by
        rcases ways with h0 | ⟨_,hw⟩
        · omega
        · exact hw.out
       clear hb hr hq HQ ways hz
       go_enter Tryz.func23,Tryz.ntmps23
       go_wp2_with fail
       refine (HR.out _).mono ?_
       rintro e w2 ⟨rfl,hU⟩
       go_wp2
       go_ret3
       exact ⟨by rw [HV.out,HST.out]; rfl,hU⟩
     · have t1:=HQ.out.trans (decide_eq_false hq)
       have HV:=Lib.hid (xN (ZX hb (by rw [hr]; simp [hq])))
       rw [hr] at HR
       clear hb hr hq HQ
       rcases ways with h0 | ⟨h1,hw⟩
       · go_enter Tryz.func23,Tryz.ntmps23
         go_wp2_with fail
         refine (HR.out _).mono ?_
         rintro e w2 ⟨rfl,hU⟩
         go_wp2
         go_ret3
         exact ⟨by rw [HV.out]; rfl,hU⟩
       · obtain ⟨hw1,t47⟩:=hw.out
         go_enter Tryz.func23,Tryz.ntmps23
         go_wp2_with fail
         refine (HR.out _).mono ?_
         rintro e w2 ⟨rfl,hU⟩
         go_wp2
         go_ret3
         exact ⟨by rw [HV.out]; rfl,hU⟩
end Go.Proofs.YtfkcdnaghndgfaaGreatDoor
namespace Go.Proofs.YtfkcdnaghndgfaaGreatDoor
open Go.RowKit
set_option maxRecDepth 100000 in
set_option maxHeartbeats 1600000 in
theorem jp (t f k b:Nat) (w:World) (hb:w.cell? ⟨b,0,none⟩=some (.int .u32 (t:Nat))) (ht:t<4294967296) (hf:f≤25) (hk:k≤7) :
 Calls Tryz.prog 115 #[.int .i64 (f:Nat),.int .i64 (k:Nat),.pointer (some ⟨b,0,none⟩)] w fun e w'=>e = .returned (.int .i64 (t/2^f%2^k:Nat)) ∧ ∃ n,w'=w.drewN n:=by
 go_enter Tryz.func115,Tryz.ntmps115
 go_wp2
 go_quiet (fail)
 go_wp2
 go_returns
 exact ⟨by
  show Ending.returned (.int .i64 (wrap64 (bits BinOp.and IntKind.u32 ((t:Int)/2^f) ((2^k-1)%4294967296))))=_
  rw [zhl t f k ht hk,zcE _ (Nat.lt_of_lt_of_le (Nat.mod_lt _ (Nat.two_pow_pos k)) (Nat.le_trans (Nat.pow_le_pow_right (by omega) hk) (by omega)))],_,rfl⟩
end Go.Proofs.YtfkcdnaghndgfaaGreatDoor
namespace Go.Proofs.YtfkcdnaghndgfaaGreatDoor
open Go.RowKit
def kR (t:Nat):List Value:=[.int .i64 (1980+(t:Int)/33554432%128),.int .i64 ((t:Int)/2097152%16),.int .i64 ((t:Int)/65536%32),.int .i64 ((t:Int)/2048%32),.int .i64 ((t:Int)/32%64),.int .i64 (2*((t:Int)%32))]
theorem ziV:(Tryz.prog.info? 111).map (·.size)=some 6:=by kernel_rfl
theorem ziU:(Tryz.prog.info? 89).map (·.size)=some 6:=by kernel_rfl
set_option maxRecDepth 100000 in
set_option maxHeartbeats 1600000 in
theorem zci (t:Nat) (w:World) (ht:t<4294967296) :
 Calls Tryz.prog 72 #[.int .u32 (t:Nat)] w fun e w'=>e = .returned (.agg (kR t).toArray)∧Upd [] w w':=by
 go_enter Tryz.func72,Tryz.ntmps72
 go_upto_region 2 with fail
 have hT:=(Blk.new w [.int .u32 (t:Nat)] 22).alloc (Obj.cells #[.int .i64 0,.int .i64 0,.int .i64 0,.int .i64 0,.int .i64 0,.int .i64 0] 111)
 have hR:=Blk.new (w.alloc (Obj.cells #[.int .u32 (t:Nat)] 22)) [.int .i64 0,.int .i64 0,.int .i64 0,.int .i64 0,.int .i64 0,.int .i64 0] 111
 have hU:Upd [] w ((w.alloc (Obj.cells #[.int .u32 (t:Nat)] 22)).alloc (Obj.cells #[.int .i64 0,.int .i64 0,.int .i64 0,.int .i64 0,.int .i64 0,.int .i64 0] 111)):=((Upd.refl [] w).alloc _).alloc _
 rw [World.size_alloc] at hR
 change Code.wp _ _ _ _ ((w.alloc (Obj.cells #[.int .u32 (t:Nat)] 22)).alloc (Obj.cells #[.int .i64 0,.int .i64 0,.int .i64 0,.int .i64 0,.int .i64 0,.int .i64 0] 111))
 generalize (w.alloc (Obj.cells #[.int .u32 (t:Nat)] 22)).alloc (Obj.cells #[.int .i64 0,.int .i64 0,.int .i64 0,.int .i64 0,.int .i64 0,.int .i64 0] 111)=w2 at *
 have HC:=Lib.hid (hT.cell 0 rfl)
 have HR:=Lib.hid hR
 clear hT hR
 go_wp2_with fail
 refine (jp t 25 7 w.heap.size _ (by exact HC.out) ht (by omega) (by omega)).mono ?_
 rintro e w3 ⟨rfl,k0,rfl⟩
 go_wp2_with fail
 refine (jp t 21 4 w.heap.size _ (by exact HC.out) ht (by omega) (by omega)).mono ?_
 rintro e w3 ⟨rfl,k1,rfl⟩
 go_wp2_with fail
 refine (jp t 16 5 w.heap.size _ (by exact HC.out) ht (by omega) (by omega)).mono ?_
 rintro e w3 ⟨rfl,k2,rfl⟩
 go_wp2_with fail
 refine (jp t 11 5 w.heap.size _ (by exact HC.out) ht (by omega) (by omega)).mono ?_
 rintro e w3 ⟨rfl,k3,rfl⟩
 go_wp2_with fail
 refine (jp t 5 6 w.heap.size _ (by exact HC.out) ht (by omega) (by omega)).mono ?_
 rintro e w3 ⟨rfl,k4,rfl⟩
 go_wp2_with fail
 refine (jp t 0 5 w.heap.size _ (by exact HC.out) ht (by omega) (by omega)).mono ?_
 rintro e w3 ⟨rfl,k5,rfl⟩
 have rA:=HR.out.all
 have fA:=HR.out.frz
 go_wp2
 have hB:=(((((((HR.out.drewN (k0+k1+k2+k3+k4+k5)).set 0 (.int .i64 (1980+(t:Int)/33554432%128))).set 1 (.int .i64 ((t:Int)/2097152%16))).set 2 (.int .i64 ((t:Int)/65536%32))).set 3 (.int .i64 ((t:Int)/2048%32))).set 4 (.int .i64 ((t:Int)/32%64))).set 5 (.int .i64 (2*((t:Int)%32))))
 refine bodyPost_ret (v := .agg (kR t).toArray) (results_cell_row rfl _ _ (w.heap.size+1) 111 (kR t).toArray (0,0) _ (by simp) (hB) Tryz.underlying111 rfl (by rw [ziV]; rfl)) (by simp) ⟨rfl,?_⟩
 exact (((((((hU.drewN _).setCell (.inr (by simp)) _).setCell (.inr (by simp)) _).setCell (.inr (by simp)) _).setCell (.inr (by simp)) _).setCell (.inr (by simp)) _).setCell (.inr (by simp)) _)
theorem jh (a b:Int) (w:World):Calls Tryz.prog 116 #[.int .i64 a,.int .i64 b] w fun e w'=>e = .returned (.bool (decide (0≤a)&&decide (a<b)))∧w=w':=by
 by_cases h:0≤a
 · have t1:decide (0≤a)=true:=decide_eq_true h
   go_enter Tryz.func116,Tryz.ntmps116
   go_wp2
   go_returns
   exact ⟨by simp [t1],rfl⟩
 · have t1:decide (0≤a)=false:=decide_eq_false h
   go_enter Tryz.func116,Tryz.ntmps116
   go_wp2
   go_returns
   exact ⟨by simp [t1],rfl⟩
end Go.Proofs.YtfkcdnaghndgfaaGreatDoor
namespace Go.Proofs.YtfkcdnaghndgfaaGreatDoor
open Go.RowKit
def Qr (y:Int):Bool:=decide (y%4=0)&&decide (y≠2100)
def qp (y m:Int):Int:=if m<1∨12<m then 0 else if m=2 then (if Qr y=true then 29 else 28) else if m=4∨m=6∨m=9∨m=11 then 30 else 31
theorem zft (y:Int) (w:World) (hy:1980≤y) (hy2:y≤2107):Calls Tryz.prog 148 #[.int .i64 y] w fun e w'=>e = .returned (.bool (Qr y))∧w=w':=by
 have h0:(0:Int)≤y:=by omega
 by_cases h:y%4=0
 · have t1:(y%4==0)=true:=by simp [h]
   have HB:=Lib.hid (show Qr y=(y != 2100) from by unfold Qr; rw [decide_eq_true h]; by_cases h2:y=2100<;>simp [h2])
   clear h
   go_enter Tryz.func148,Tryz.ntmps148
   go_wp2
   go_returns
   exact ⟨by rw [HB.out]; rfl,rfl⟩
 · have t1:(y%4==0)=false:=by simp [h]
   have HB:=Lib.hid (show Qr y=false from by unfold Qr; rw [decide_eq_false h]; rfl)
   clear h
   go_enter Tryz.func148,Tryz.ntmps148
   go_wp2
   go_returns
   exact ⟨by rw [HB.out]; rfl,rfl⟩
set_option maxRecDepth 100000 in
set_option maxHeartbeats 6400000 in
theorem ze3 (y m:Int) (w:World) (hy:1980≤y) (hy2:y≤2107) (hm0:0≤m) (hm:m≤15):Calls Tryz.prog 117 #[.int .i64 y,.int .i64 m] w fun e w'=>e = .returned (.int .i64 (qp y m))∧Upd [] w w':=by
 have t1:decide (y<1980)=false:=decide_eq_false (by omega)
 have t2:decide (2107<y)=false:=decide_eq_false (by omega)
 have HL:=Lib.hid (fun w'=>zft y w' hy hy2)
 by_cases h2:m=2
 · subst h2
   cases hb:Qr y with
   | true =>
     have HB:=Lib.hid (show qp y 2=29 from by unfold qp; rw [hb]; rfl)
     rw [hb] at HL
     go_enter Tryz.func117,Tryz.ntmps117
     go_wp2_with fail
     refine (HL.out _).mono ?_
     rintro e w1 ⟨rfl,rfl⟩
     go_wp2
     go_returns
     exact ⟨by rw [HB.out]; rfl,(Upd.refl _ _).alloc _⟩
   | false =>
     have HB:=Lib.hid (show qp y 2=28 from by unfold qp; rw [hb]; rfl)
     rw [hb] at HL
     go_enter Tryz.func117,Tryz.ntmps117
     go_wp2_with fail
     refine (HL.out _).mono ?_
     rintro e w1 ⟨rfl,rfl⟩
     go_wp2
     go_returns
     exact ⟨by rw [HB.out]; rfl,(Upd.refl _ _).alloc _⟩
 · clear HL
   rcases (by omega:m=0∨m=1∨m=2∨m=3∨m=4∨m=5∨m=6∨m=7∨m=8∨m=9∨m=10∨m=11∨m=12∨m=13∨m=14∨m=15) with rfl | rfl | rfl | rfl | rfl | rfl | rfl | rfl | rfl | rfl | rfl | rfl | rfl | rfl | rfl | rfl
   all_goals first
    | (exact absurd rfl h2)
    | (clear h2
       go_enter Tryz.func117,Tryz.ntmps117
       go_wp2
       go_returns
       first | exact ⟨rfl,(Upd.refl _ _).alloc _⟩ | exact ⟨rfl,.refl _ _⟩)
set_option maxRecDepth 100000 in
set_option maxHeartbeats 6400000 in
theorem zfp (y m:Int) (w:World) (hy:1980≤y) (hy2:y≤2107) (hm0:0≤m) (hm:m≤15):Calls Tryz.prog 92 #[.int .i64 y,.int .i64 m] w fun e w'=>e = .returned (.int .i64 (qp y m))∧w=w':=by
 have t1:decide (y<1980)=false:=decide_eq_false (by omega)
 have t2:decide (2107<y)=false:=decide_eq_false (by omega)
 have h0:(0:Int)≤y:=by omega
 by_cases h2:m=2
 · subst h2
   by_cases h4:y%4=0
   · have t3:(y%4==0)=true:=by simp [h4]
     by_cases h5:y=2100
     · have HB:=Lib.hid (show qp y 2=28 from by subst h5; rfl)
       have t4:(y != 2100)=false:=by simp [h5]
       clear h4 h5
       go_enter Tryz.func92,Tryz.ntmps92
       go_wp2
       go_returns
       exact ⟨by rw [HB.out]; rfl,rfl⟩
     · have HB:=Lib.hid (show qp y 2=29 from by unfold qp Qr; simp [h4,h5])
       have t4:(y != 2100)=true:=by simp [h5]
       clear h4 h5
       go_enter Tryz.func92,Tryz.ntmps92
       go_wp2
       go_returns
       exact ⟨by rw [HB.out]; rfl,rfl⟩
   · have t3:(y%4==0)=false:=by simp [h4]
     have HB:=Lib.hid (show qp y 2=28 from by unfold qp Qr; simp [h4])
     clear h4
     go_enter Tryz.func92,Tryz.ntmps92
     go_wp2
     go_returns
     exact ⟨by rw [HB.out]; rfl,rfl⟩
 · rcases (by omega:m=0∨m=1∨m=2∨m=3∨m=4∨m=5∨m=6∨m=7∨m=8∨m=9∨m=10∨m=11∨m=12∨m=13∨m=14∨m=15) with rfl | rfl | rfl | rfl | rfl | rfl | rfl | rfl | rfl | rfl | rfl | rfl | rfl | rfl | rfl | rfl
   all_goals first
    | (exact absurd rfl h2)
    | (clear h2
       go_enter Tryz.func92,Tryz.ntmps92
       go_wp2
       go_returns
       exact ⟨rfl,rfl⟩)
end Go.Proofs.YtfkcdnaghndgfaaGreatDoor
