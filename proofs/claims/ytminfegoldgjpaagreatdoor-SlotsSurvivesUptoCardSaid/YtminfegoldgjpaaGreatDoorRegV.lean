import Derived.Test.YtminfegoldgjpaaGreatDoorRegT
set_option linter.unusedVariables false
set_option linter.unusedSimpArgs false
set_option maxRecDepth 100000
namespace Go.Proofs.YtminfegoldgjpaaGreatDoor.Gw
open Go
section
variable {P : Program} {ops : Array Oper} {Q : Exit → Act → World → Prop}
def nrm (Q : Exit → Act → World → Prop) (K : Act → World → Prop) : Exit → Act → World → Prop
 | .normal, a, w => K a w
 | e, a, w => Q e a w
theorem wp_nrm {o : Oper} {a : Act} {w : World} {K K' : Act → World → Prop} (h : o.wp P a w K (NoPanic (nrm Q K'))) : o.wp P a w K (NoPanic Q) := by
 unfold Oper.wp at *
 generalize (execOp a.eval o).run P w = r at *
 cases r with
 | ok n w' =>
   cases n <;> simp only [Oper.upon] at h ⊢ <;> first
     | exact h
     | exact Calls.mono h (fun e w'' he => by cases e <;> exact he)
 | halt x w' => cases x <;> simp only [Oper.upon] at h ⊢ <;> exact h
theorem elemT_nrm {s : Stp} {K K' : Act → World → Prop} {a : Act} {w : World} (h : elemT P ops (nrm Q K') s K a w) : elemT P ops Q s K a w := by
 unfold elemT at *
 cases ho : ops[s.i]? with
 | none => rw [ho] at h; exact h.elim
 | some o =>
   rw [ho] at h
   dsimp only at h ⊢
   by_cases hw : Region.wanted o (yielded ops a.tmps) = true
   · rw [if_pos hw] at h ⊢
     by_cases hq : s.q = true
     · rw [if_pos hq] at h ⊢
       exact h
     · rw [if_neg hq] at h ⊢
       exact h.imp wp_nrm (fun k => ⟨k.1, k.2⟩)
   · rw [if_neg hw] at h ⊢
     exact h
def wpK (P : Program) (ops : Array Oper) (Q : Exit → Act → World → Prop) (K : Act → World → Prop) : List Stp → Act → World → Prop
 | [], a, w => K a w
 | s :: rest, a, w => elemT P ops Q s (wpK P ops Q K rest) a w
theorem wpK_mono {K K' : Act → World → Prop} (h : ∀ a w, K a w → K' a w) : ∀ (l : List Stp) (a : Act) (w : World), wpK P ops Q K l a w → wpK P ops Q K' l a w
 | [], a, w, hh => h a w hh
 | _ :: l, _, _, hh => elemT_mono (fun a w hk => wpK_mono h l a w hk) hh
theorem wpK_nrm {K : Act → World → Prop} : ∀ (l : List Stp) (a : Act) (w : World), wpT P ops (nrm Q K) l a w → wpK P ops Q K l a w
 | [], _, _, h => h
 | _ :: l, _, _, h => elemT_mono (fun a w hk => wpK_nrm l a w hk) (elemT_nrm h)
theorem wpK_app {K : Act → World → Prop} (l2 : List Stp) : ∀ (l1 : List Stp), wpK P ops Q K (l1 ++ l2) = wpK P ops Q (wpK P ops Q K l2) l1
 | [] => rfl
 | s :: l1 => by
   funext a w
   show elemT P ops Q s (wpK P ops Q K (l1 ++ l2)) a w = elemT P ops Q s (wpK P ops Q (wpK P ops Q K l2) l1) a w
   rw [wpK_app l2 l1]
theorem wpT_K : ∀ (l : List Stp), wpT P ops Q l = wpK P ops Q (Q .normal) l
 | [] => rfl
 | s :: l => by
   funext a w
   show elemT P ops Q s (wpT P ops Q l) a w = elemT P ops Q s (wpK P ops Q (Q .normal) l) a w
   rw [wpT_K l]
inductive Tr
 | fin (l : List Stp)
 | br (L : List Stp) (e : Stp) (A : List Stp) (sub : Tr)
def Tr.len : Tr → Nat
 | fin l => l.length
 | br L _ _ _ => L.length
def Tr.wpk (P : Program) (ops : Array Oper) (Q : Exit → Act → World → Prop) : Tr → Act → World → Prop
 | fin l, a, w => wpT P ops Q l a w
 | br L e A sub, a, w => wpT P ops Q L a w ∧ elemT P ops Q e (wpK P ops Q (sub.wpk P ops Q) A) a w
def Tr.wp (P : Program) (ops : Array Oper) (Q : Exit → Act → World → Prop) : Tr → Act → World → Prop
 | fin l, a, w => WpT P ops Q l a w
 | br L e A sub, a, w => WpT P ops Q L a w ∧ WpT P ops (nrm Q (sub.wp P ops Q)) (e :: A) a w
theorem Tr.wpk_of : ∀ (t : Tr) (a : Act) (w : World), t.wp P ops Q a w → t.wpk P ops Q a w
 | fin _, _, _, h => h.out
 | br L e A sub, a, w, h => ⟨h.1.out, by
   have h2 := wpK_nrm (e :: A) a w h.2.out
   exact elemT_mono (fun a w hk => wpK_mono (fun a w => Tr.wpk_of sub a w) A a w hk) h2⟩
theorem frontK {ps : Nat → Nat} (hns : Region.noSelect ops = true) {y : Stp} {K : Act → World → Prop} : ∀ (l1 : List Stp) (n : Nat), (∀ x ∈ l1, n ≤ ps x.i) → l1.Pairwise (fun x z => ps x.i < ps z.i) →
   (∀ x ∈ l1, ∃ ox oy, ops[x.i]? = some ox ∧ ops[y.i]? = some oy ∧ commB P ops x y ox oy = true ∧
     ∀ i ∈ y.held, ps i < ps x.i → ∀ oi, ops[i]? = some oi → ∀ d, ox.dst = some d → d ∉ oi.looksAt ops) →
   ∀ a w, wpK P ops Q (elemT P ops Q y K) l1 a w → elemT P ops Q { y with held := y.held.filter fun i => ps i < n } (wpK P ops Q K l1) a w
 | [], n, _, _, _, a, w, h => elemT_held (fun i hi => (List.mem_filter.1 hi).1) h
 | x :: l1, n, hn, hsrt, hc, a, w, h => by
   have hsrt' := List.pairwise_cons.1 hsrt
   obtain ⟨ox, oy, hox, hoy, hcomm, hheld⟩ := hc x (List.mem_cons_self ..)
   have h1 : elemT P ops Q x (elemT P ops Q { y with held := y.held.filter fun i => ps i < ps x.i + 1 } (wpK P ops Q K l1)) a w :=
     elemT_mono (fun a w h => frontK hns l1 (ps x.i + 1) (fun z hz => hsrt'.1 z hz) hsrt'.2 (fun z hz => hc z (List.mem_cons_of_mem _ hz)) a w h) h
   have hcomm' : commB P ops x { y with held := y.held.filter fun i => ps i < ps x.i + 1 } ox oy = true := by
     unfold commB at hcomm ⊢
     simp only [Bool.and_eq_true] at hcomm ⊢
     refine ⟨hcomm.1, ?_⟩
     have h2 := hcomm.2
     by_cases hq : y.q = true
     · rw [if_pos hq] at h2 ⊢; exact h2
     · rw [if_neg hq] at h2 ⊢
       simp only [Bool.or_eq_true, Bool.and_eq_true] at h2 ⊢
       refine h2.imp id fun h3 => ⟨?_, h3.2⟩
       simpa using h3.1
   refine swapT (y := { y with held := y.held.filter fun i => ps i < ps x.i + 1 }) hox hoy (fun cs b => Region.noSelect_spec hns x.i ox cs b hox) (fun cs b => Region.noSelect_spec hns y.i oy cs b hoy) hcomm' (held' := y.held.filter fun i => ps i < n) ?_ h1
   intro i hi
   obtain ⟨hi1, hi2⟩ := List.mem_filter.1 hi
   have hi3 : ps i < n := by simpa using hi2
   have hnx := hn x (List.mem_cons_self ..)
   refine ⟨List.mem_filter.2 ⟨hi1, by simp; omega⟩, fun oi hoi => ⟨fun cs b => Region.noSelect_spec hns i oi cs b hoi, hheld i hi1 (by omega) oi hoi⟩⟩
def pairV (P : Program) (ops : Array Oper) (T : List Nat) (ps : Nat → Nat) (v e : Nat) (x y : Stp) : Bool :=
 pairB P ops T ps x y || (match ops[x.i]? with
   | some ox => decide (ps x.i < ps y.i) && ox.after.all (fun g => !(Region.binds .any g) || g.on != y.i) && (x.i == v && (y.i == e || Ord T e y.i))
   | none => false)
theorem pairV_lt {T : List Nat} {ps : Nat → Nat} {v e : Nat} {x y : Stp} (h : pairV P ops T ps v e x y = true) : ps x.i < ps y.i := by
 unfold pairV at h
 rw [Bool.or_eq_true] at h
 rcases h with h | h
 · exact pairB_lt h
 · split at h
   · simp only [Bool.and_eq_true, decide_eq_true_eq] at h; exact h.1.1
   · cases h
theorem pairV_after {T : List Nat} {ps : Nat → Nat} {v e : Nat} {x y : Stp} {ox : Oper} (hx : ops[x.i]? = some ox) (h : pairV P ops T ps v e x y = true) : ∀ g ∈ ox.after, Region.binds .any g = true → g.on ≠ y.i := by
 unfold pairV at h
 rw [Bool.or_eq_true] at h
 rcases h with h | h
 · exact pairB_after hx h
 · rw [hx] at h
   simp only [Bool.and_eq_true] at h
   intro g hg hb heq
   have := Array.all_eq_true_iff_forall_mem.1 h.1.2 g hg
   simp [hb, heq] at this
theorem pairV_tight {T : List Nat} {ps : Nat → Nat} {v e : Nat} {x y : Stp} (h : pairV P ops T ps v e x y = true) (hn : x.i ≠ v) : pairB P ops T ps x y = true := by
 unfold pairV at h
 rw [Bool.or_eq_true] at h
 rcases h with h | h
 · exact h
 · split at h
   · simp only [Bool.and_eq_true, beq_iff_eq] at h; exact absurd h.2.1 hn
   · cases h
structure Rst (ops : Array Oper) (R : Stp → Stp → Prop) (l : List Stp) (listed : Array Bool) : Prop where
 pw : l.Pairwise R
 ne : l.Pairwise (fun x y => x.i ≠ y.i)
 ok : ∀ s ∈ l, ∃ o, ops[s.i]? = some o ∧ (∀ e ∈ o.after, e.on ≠ s.i ∧ e.on < ops.size) ∧ (s.q = true → plainOp o.op = true)
 un : ∀ s ∈ l, listed.getD s.i true = false
 al : ∀ i, i < ops.size → listed.getD i true = false → ∃ s ∈ l, s.i = i
theorem Rst.drop {R : Stp → Stp → Prop} {l1 l2 : List Stp} {y : Stp} {listed : Array Bool} (hsz : listed.size = ops.size) (h : Rst ops R (l1 ++ y :: l2) listed) : Rst ops R (l1 ++ l2) (listed.setIfInBounds y.i true) := by
 have hsub : ∀ s, s ∈ l1 ++ l2 → s ∈ l1 ++ y :: l2 := fun s hs => (List.mem_append.1 hs).elim (List.mem_append_left _) fun h => List.mem_append_right _ (List.mem_cons_of_mem _ h)
 have hsl : (l1 ++ l2).Sublist (l1 ++ y :: l2) := List.Sublist.append (List.Sublist.refl _) (List.sublist_cons_self _ _)
 have hne := List.pairwise_append.1 h.ne
 have hneq : ∀ s ∈ l1 ++ l2, y.i ≠ s.i := fun s hs => by
   rcases List.mem_append.1 hs with h1 | h1
   · exact fun e => hne.2.2 s h1 y (List.mem_cons_self ..) e.symm
   · exact (List.pairwise_cons.1 hne.2.1).1 s h1
 obtain ⟨oy, hoy, _⟩ := h.ok y (by simp)
 have hlt : y.i < listed.size := by rw [hsz]; exact (Array.getElem?_eq_some_iff.1 hoy).1
 refine ⟨h.pw.sublist hsl, h.ne.sublist hsl, fun s hs => h.ok s (hsub s hs), fun s hs => ?_, fun j hj hjl => ?_⟩
 · rw [getD_set_ne true (hneq s hs)]
   exact h.un s (hsub s hs)
 · by_cases hjy : y.i = j
   · subst hjy
     simp [hlt] at hjl
   · rw [getD_set_ne true hjy] at hjl
     obtain ⟨s, hs, hsj⟩ := h.al j hj hjl
     refine ⟨s, ?_, hsj⟩
     rcases List.mem_append.1 hs with hs | hs
     · exact List.mem_append_left _ hs
     · rcases List.mem_cons.1 hs with rfl | hs
       · exact absurd hsj hjy
       · exact List.mem_append_right _ hs
theorem Rst.far {R : Stp → Stp → Prop} {l : List Stp} {y s : Stp} {l1 l2 : List Stp} {listed : Array Bool} (h : Rst ops R l listed) (he : l = l1 ++ y :: l2) (hs : s ∈ l1 ++ l2) : y.i ≠ s.i := by
 subst he
 have hne := List.pairwise_append.1 h.ne
 rcases List.mem_append.1 hs with h1 | h1
 · exact fun e => hne.2.2 s h1 y (List.mem_cons_self ..) e.symm
 · exact (List.pairwise_cons.1 hne.2.1).1 s h1
def OKP (P : Program) (ops : Array Oper) (v : Nat) : List Stp → Tr → Array Bool → Prop
 | A, .fin l, listed => ∃ ps, Rst ops (fun x y => pairB P ops (ancs ops.toList []) ps x y = true) (A ++ l) listed
 | A, .br L e A' sub, listed => (∃ ps, Rst ops (fun x y => pairV P ops (ancs ops.toList []) ps v e.i x y = true) (A ++ L) listed) ∧
     (∃ ps, A.Pairwise (fun x z => ps x.i < ps z.i) ∧ ∀ x ∈ A, pairB P ops (ancs ops.toList []) ps x e = true) ∧ (∃ s ∈ L, s.i = v) ∧ (∃ s ∈ L, s.i = e.i) ∧
     (∀ y ∈ L, y.i = v ∨ y.i = e.i ∨ Ord (ancs ops.toList []) v y.i = true ∨ Ord (ancs ops.toList []) e.i y.i = true) ∧ e.q = false ∧ L.length = A'.length + sub.len + 1 ∧
     OKP P ops v (A ++ A') sub (listed.setIfInBounds e.i true)
theorem OKP.drop {v : Nat} : ∀ (t : Tr) {A1 A2 : List Stp} {y : Stp} {listed : Array Bool}, listed.size = ops.size → OKP P ops v (A1 ++ y :: A2) t listed → OKP P ops v (A1 ++ A2) t (listed.setIfInBounds y.i true)
 | .fin l, A1, A2, y, listed, hsz, h => by
   obtain ⟨ps, h⟩ := h
   refine ⟨ps, ?_⟩
   rw [List.append_assoc] at h ⊢
   exact Rst.drop hsz h
 | .br L e A' sub, A1, A2, y, listed, hsz, h => by
   obtain ⟨⟨ps, h1⟩, ⟨ps2, h2, h3⟩, h4, h5, h6, h7, h8, h9⟩ := h
   refine ⟨⟨ps, ?_⟩, ⟨ps2, h2.sublist (List.Sublist.append (List.Sublist.refl _) (List.sublist_cons_self _ _)), fun x hx => h3 x ?_⟩, h4, h5, h6, h7, h8, ?_⟩
   · rw [List.append_assoc] at h1 ⊢
     exact Rst.drop hsz h1
   · rcases List.mem_append.1 hx with hx | hx
     · exact List.mem_append_left _ hx
     · exact List.mem_append_right _ (List.mem_cons_of_mem _ hx)
   · rw [List.append_assoc] at h9 ⊢
     have := OKP.drop sub (A1 := A1) (A2 := A2 ++ A') (y := y) (listed := listed.setIfInBounds e.i true) (by simpa using hsz) h9
     have hc : (listed.setIfInBounds e.i true).setIfInBounds y.i true = (listed.setIfInBounds y.i true).setIfInBounds e.i true := by
       by_cases hye : e.i = y.i
       · rw [hye]
       · exact Array.setIfInBounds_comm _ _ hye
     rwa [hc] at this
theorem listed_no {listed : Array Bool} {i : Nat} (h1 : listed.getD i false = true) (h2 : listed.getD i true = false) : False := by
 rcases Nat.lt_or_ge i listed.size with h' | h'
 · simp [h'] at h1 h2; rw [h2] at h1; cases h1
 · simp [Array.getElem?_eq_none h'] at h1
theorem comm_of {ps : Nat → Nat} {x y : Stp} {o : Oper} {listed : Array Bool} (hdc : DC ops listed) (ho : ops[y.i]? = some o) (hdeps : ∀ e ∈ o.after, Region.binds .any e = true → listed.getD e.on false = true) (hx : ∃ ox, ops[x.i]? = some ox) (hun : listed.getD x.i true = false)
   (hxy : pairB P ops (ancs ops.toList []) ps x y = true) : ∃ ox oy, ops[x.i]? = some ox ∧ ops[y.i]? = some oy ∧ commB P ops x y ox oy = true ∧
     ∀ i ∈ y.held, ps i < ps x.i → ∀ oi, ops[i]? = some oi → ∀ d, ox.dst = some d → d ∉ oi.looksAt ops := by
 obtain ⟨ox, hox⟩ := hx
 refine ⟨ox, o, hox, ho, ?_⟩
 unfold pairB at hxy
 simp only [hox, ho, Bool.and_eq_true, Bool.or_eq_true] at hxy
 rcases hxy.2 with hord | ⟨hc, hh⟩
 · exact (listed_no (ord_listed hdc ho hdeps hord) hun).elim
 · refine ⟨hc, fun j hj hlt oi hoi d hd => ?_⟩
   have := List.all_eq_true.1 hh j hj
   simpa [hlt, hoi, hd] using this
theorem any_of_tree {v : Nat} (hns : Region.noSelect ops = true) : ∀ (n : Nat) (A : List Stp) (t : Tr) (listed : Array Bool), A.length + t.len = n → listed.size = ops.size → DC ops listed → OKP P ops v A t listed →
   ∀ a w, wpK P ops Q (t.wpk P ops Q) A a w → wpAny P .any ops (NoPanic Q) n listed a w := by
 intro n
 induction n with
 | zero =>
   intro A t listed hlen hsz hdc hO a w h
   cases t with
   | fin l =>
     obtain ⟨ps, R⟩ := hO
     refine any_of_script (P := P) (Q := Q) (ps := ps) hns 0 (A ++ l) (by simpa [Tr.len] using hlen) R.pw R.ok listed hsz R.un R.al hdc a w ?_
     rw [wpT_K, wpK_app, ← wpT_K]
     exact h
   | br L e A' sub =>
     obtain ⟨_, _, ⟨s, hs, _⟩, _⟩ := hO
     have : L = [] := by
       have : L.length = 0 := by simp only [Tr.len] at hlen; omega
       exact List.eq_nil_of_length_eq_zero this
     subst this
     cases hs
 | succ n ih =>
   intro A t listed hlen hsz hdc hO a w h
   cases t with
   | fin l =>
     obtain ⟨ps, R⟩ := hO
     refine any_of_script (P := P) (Q := Q) (ps := ps) hns (n + 1) (A ++ l) (by simpa [Tr.len] using hlen) R.pw R.ok listed hsz R.un R.al hdc a w ?_
     rw [wpT_K, wpK_app, ← wpT_K]
     exact h
   | br L e A' sub =>
     have hOO := hO
     obtain ⟨⟨ps, R⟩, ⟨ps2, hA2, hAe⟩, ⟨sv, hsv, hsvi⟩, ⟨se, hse, hsei⟩, hL, heq, hLl, hsub⟩ := hO
     have hvun : listed.getD v true = false := by rw [← hsvi]; exact R.un sv (List.mem_append_right _ hsv)
     have heun : listed.getD e.i true = false := by rw [← hsei]; exact R.un se (List.mem_append_right _ hse)
     have hAv : ∀ x ∈ A, x.i ≠ v := fun x hx => by rw [← hsvi]; exact (List.pairwise_append.1 R.ne).2.2 x hx sv hsv
     refine ⟨fun hr0 => ?_, fun i hi => ?_⟩
     · cases hAL : A ++ L with
       | nil =>
         have : sv ∈ A ++ L := List.mem_append_right _ hsv
         rw [hAL] at this
         cases this
       | cons x r =>
         exfalso
         rw [hAL] at R
         obtain ⟨ox, hox, hdx, _⟩ := R.ok x (List.mem_cons_self ..)
         have hx : x.i ∈ Region.ready .any ops listed := by
           refine mem_ready.2 ⟨R.un x (List.mem_cons_self ..), ox, hox, fun g hg hb => ?_⟩
           obtain ⟨hne, hlt⟩ := hdx g hg
           cases hle : listed.getD g.on true with
           | true =>
             have : g.on < listed.size := by omega
             simp [this] at hle ⊢
             exact hle
           | false =>
             exfalso
             obtain ⟨s, hs, hsg⟩ := R.al g.on hlt hle
             rcases List.mem_cons.1 hs with rfl | hs
             · exact hne hsg.symm
             · exact pairV_after hox ((List.pairwise_cons.1 R.pw).1 s hs) g hg hb hsg.symm
         rw [hr0] at hx
         cases hx
     · obtain ⟨h0, o, ho, hdeps⟩ := mem_ready.1 hi
       obtain ⟨y, hy, hyi⟩ := R.al i (Array.getElem?_eq_some_iff.1 ho).1 h0
       subst hyi
       have hdc' : DC ops (listed.setIfInBounds y.i true) := dc_set ho hdeps hdc
       have hsz' : (listed.setIfInBounds y.i true).size = ops.size := by simpa using hsz
       have hex : ∀ x ∈ A ++ L, ∃ ox, ops[x.i]? = some ox := fun x hx => by obtain ⟨ox, hox, _⟩ := R.ok x hx; exact ⟨ox, hox⟩
       have hpl : y.q = true → plainOp o.op = true := fun hq => by
         obtain ⟨o', ho', _, hp⟩ := R.ok y hy
         rw [ho] at ho'; cases ho'; exact hp hq
       rcases List.mem_append.1 hy with hyA | hyL
       · obtain ⟨A1, A2, rfl⟩ := List.append_of_mem hyA
         have hpA := List.pairwise_append.1 (List.pairwise_append.1 R.pw).1
         have h2 : wpK P ops Q (elemT P ops Q y (wpK P ops Q ((Tr.br L e A' sub).wpk P ops Q) A2)) A1 a w := by
           rw [wpK_app] at h
           exact h
         have hf := frontK (P := P) (Q := Q) (ps := ps) hns A1 0 (fun _ _ => Nat.zero_le _) (hpA.1.imp fun h => pairV_lt h)
           (fun x hx => comm_of hdc ho hdeps (hex x (by simp [hx])) (R.un x (by simp [hx])) (pairV_tight (hpA.2.2 x hx y (List.mem_cons_self ..)) (hAv x (by simp [hx])))) a w h2
         refine wpOp_of_elemT (s := { y with held := y.held.filter fun i => ps i < 0 }) ho hpl (fun a' w' h' => ?_) hf
         rw [← wpK_app] at h'
         exact ih (A1 ++ A2) (.br L e A' sub) _ (by simp only [List.length_append, List.length_cons] at hlen ⊢; omega) hsz' hdc' (OKP.drop (.br L e A' sub) hsz hOO) a' w' h'
       · by_cases hyv : y.i = v
         · obtain ⟨L1, L2, rfl⟩ := List.append_of_mem hyL
           have h2 : wpT P ops Q ((A ++ L1) ++ y :: L2) a w := by
             rw [List.append_assoc, wpT_K, wpK_app, ← wpT_K]
             exact wpK_mono (fun a w hk => hk.1) A a w h
           have R2 : Rst ops (fun x y => pairV P ops (ancs ops.toList []) ps v e.i x y = true) ((A ++ L1) ++ y :: L2) listed := by rw [List.append_assoc]; exact R
           have hne : ∀ x ∈ (A ++ L1) ++ L2, x.i ≠ v := fun x hx => by rw [← hyv]; exact (Rst.far R2 rfl hx).symm
           have hpA := List.pairwise_append.1 R2.pw
           have hmem : ∀ x, x ∈ A ++ L1 → x ∈ (A ++ L1) ++ y :: L2 := fun x hx => List.mem_append_left _ hx
           have hf := frontT (P := P) (Q := Q) (ps := ps) hns (y := y) (l2 := L2) (A ++ L1) 0 (fun _ _ => Nat.zero_le _) (hpA.1.imp fun h => pairV_lt h)
             (fun x hx => comm_of hdc ho hdeps (by obtain ⟨ox, hox, _⟩ := R2.ok x (hmem x hx); exact ⟨ox, hox⟩) (R2.un x (hmem x hx)) (pairV_tight (hpA.2.2 x hx y (List.mem_cons_self ..)) (hne x (List.mem_append_left _ hx)))) a w h2
           refine wpOp_of_elemT (s := { y with held := y.held.filter fun i => ps i < 0 }) ho hpl (fun a' w' h' => ?_) hf
           have R3 := Rst.drop hsz R2
           exact any_of_script (P := P) (Q := Q) (ps := ps) hns n ((A ++ L1) ++ L2) (by simp only [Tr.len, List.length_append, List.length_cons] at hlen ⊢; omega) (List.Pairwise.imp_of_mem (fun {x z} hx _ hxz => pairV_tight hxz (hne x hx)) R3.pw) R3.ok _ hsz' R3.un R3.al hdc' a' w' h'
         · by_cases hye : y.i = e.i
           · rw [hye] at ho hsz' hdc' ⊢
             have h2 : wpK P ops Q (elemT P ops Q e (wpK P ops Q (sub.wpk P ops Q) A')) A a w := wpK_mono (fun a w hk => hk.2) A a w h
             have hf := frontK (P := P) (Q := Q) (ps := ps2) hns A 0 (fun _ _ => Nat.zero_le _) hA2
               (fun x hx => comm_of hdc ho hdeps (hex x (List.mem_append_left _ hx)) (R.un x (List.mem_append_left _ hx)) (hAe x hx)) a w h2
             refine wpOp_of_elemT (s := { e with held := e.held.filter fun i => ps2 i < 0 }) ho (fun hq => by rw [heq] at hq; cases hq) (fun a' w' h' => ?_) hf
             rw [← wpK_app] at h'
             exact ih (A ++ A') sub _ (by simp only [Tr.len] at hlen; rw [List.length_append]; omega) hsz' hdc' hsub a' w' h'
           · rcases hL y hyL with h1 | h1 | h1 | h1
             · exact absurd h1 hyv
             · exact absurd h1 hye
             · exact (listed_no (ord_listed hdc ho hdeps h1) hvun).elim
             · exact (listed_no (ord_listed hdc ho hdeps h1) heun).elim
def pairsG (R : Stp → Stp → Bool) : List Stp → Bool
 | [] => true
 | x :: r => r.all (R x) && pairsG R r
theorem pairsG_spec {R : Stp → Stp → Bool} : ∀ {l : List Stp}, pairsG R l = true → l.Pairwise fun x y => R x y = true
 | [], _ => List.Pairwise.nil
 | x :: r, h => by
   simp only [pairsG, Bool.and_eq_true, List.all_eq_true] at h
   exact List.Pairwise.cons h.1 (pairsG_spec h.2)
def chkR (ops : Array Oper) (R : Stp → Stp → Bool) (D : List Nat) (l : List Stp) : Bool :=
 pairsG R l && pairsG (fun x y => x.i != y.i) l && (List.range ops.size).all (fun i => D.contains i || l.any fun s => s.i == i) &&
   l.all fun s => !D.contains s.i && match ops[s.i]? with
     | some o => o.after.all (fun e => e.on != s.i && decide (e.on < ops.size)) && (!s.q || plainOp o.op)
     | none => false
theorem chkR_ok {R : Stp → Stp → Bool} {D : List Nat} {l : List Stp} {listed : Array Bool} (h : chkR ops R D l = true) (hD : ∀ i, i < ops.size → (listed.getD i true = false ↔ i ∉ D)) : Rst ops (fun x y => R x y = true) l listed := by
 unfold chkR at h
 simp only [Bool.and_eq_true] at h
 obtain ⟨⟨⟨h1, h2⟩, h3⟩, h4⟩ := h
 have key : ∀ s ∈ l, s.i ∉ D ∧ ∃ o, ops[s.i]? = some o ∧ (∀ e ∈ o.after, e.on ≠ s.i ∧ e.on < ops.size) ∧ (s.q = true → plainOp o.op = true) := by
   intro s hs
   have := List.all_eq_true.1 h4 s hs
   simp only [Bool.and_eq_true] at this
   refine ⟨by simpa using this.1, ?_⟩
   have h5 := this.2
   cases ho : ops[s.i]? with
   | none => rw [ho] at h5; cases h5
   | some o =>
     rw [ho] at h5
     simp only [Bool.and_eq_true] at h5
     refine ⟨o, rfl, fun e he => ?_, fun hq => ?_⟩
     · have := Array.all_eq_true_iff_forall_mem.1 h5.1 e he
       simpa using this
     · have := h5.2
       simpa [hq] using this
 refine ⟨pairsG_spec h1, (pairsG_spec h2).imp fun h => by simpa using h, fun s hs => (key s hs).2, fun s hs => ?_, fun i hi hl => ?_⟩
 · obtain ⟨h5, o, ho, _⟩ := key s hs
   exact (hD s.i (Array.getElem?_eq_some_iff.1 ho).1).2 h5
 · have h5 := (hD i hi).1 hl
   have := List.all_eq_true.1 h3 i (List.mem_range.2 hi)
   rw [Bool.or_eq_true] at this
   rcases this with h6 | h6
   · exact absurd (by simpa using h6) h5
   · obtain ⟨s, hs, hsi⟩ := List.any_eq_true.1 h6
     exact ⟨s, hs, by simpa using hsi⟩
def chkT (P : Program) (ops : Array Oper) (T : List Nat) (v : Nat) : List Nat → List Stp → Tr → Bool
 | D, A, .fin l => chkR ops (pairB P ops T (pos (A ++ l))) D (A ++ l)
 | D, A, .br L e A' sub => chkR ops (pairV P ops T (pos (A ++ L)) v e.i) D (A ++ L) && (pairsG (fun x z => decide (pos (A ++ [e]) x.i < pos (A ++ [e]) z.i)) A && A.all fun x => pairB P ops T (pos (A ++ [e])) x e) &&
     L.any (fun s => s.i == v) && L.any (fun s => s.i == e.i) && L.all (fun y => y.i == v || y.i == e.i || Ord T v y.i || Ord T e.i y.i) && !e.q && L.length == A'.length + sub.len + 1 && chkT P ops T v (e.i :: D) (A ++ A') sub
theorem chkT_ok {v : Nat} : ∀ (t : Tr) {D : List Nat} {A : List Stp} {listed : Array Bool}, listed.size = ops.size → chkT P ops (ancs ops.toList []) v D A t = true → (∀ i, i < ops.size → (listed.getD i true = false ↔ i ∉ D)) → OKP P ops v A t listed
 | .fin l, D, A, listed, hsz, h, hD => ⟨_, chkR_ok h hD⟩
 | .br L e A' sub, D, A, listed, hsz, h, hD => by
   unfold chkT at h
   simp only [Bool.and_eq_true] at h
   obtain ⟨⟨⟨⟨⟨⟨⟨h1, h2, h3⟩, h4⟩, h5⟩, h6⟩, h7⟩, h8⟩, h9⟩ := h
   refine ⟨⟨_, chkR_ok h1 hD⟩, ⟨_, (pairsG_spec h2).imp fun h => by simpa using h, fun x hx => List.all_eq_true.1 h3 x hx⟩, ?_, ?_, fun y hy => ?_, by simpa using h7, by simpa using h8, chkT_ok sub (by simpa using hsz) h9 fun i hi => ?_⟩
   · obtain ⟨s, hs, hsi⟩ := List.any_eq_true.1 h4
     exact ⟨s, hs, by simpa using hsi⟩
   · obtain ⟨s, hs, hsi⟩ := List.any_eq_true.1 h5
     exact ⟨s, hs, by simpa using hsi⟩
   · have := List.all_eq_true.1 h6 y hy
     simp only [Bool.or_eq_true, beq_iff_eq] at this
     rcases this with ((h | h) | h) | h
     · exact .inl h
     · exact .inr (.inl h)
     · exact .inr (.inr (.inl h))
     · exact .inr (.inr (.inr h))
   · have hil : i < listed.size := by rw [hsz]; exact hi
     by_cases hie : e.i = i
     · subst hie
       simp [hil]
     · rw [getD_set_ne true hie, hD i hi, List.mem_cons, not_or]
       exact ⟨fun h => ⟨fun e' => hie e'.symm, h⟩, fun h => h.2⟩
theorem wp_region_Tr {id : Nat} {a : Act} {w : World} (v : Nat) (A : List Stp) (t : Tr) (hm : P.follows .mixedOrders = true) (h : (Region.noSelect ops && chkT P ops (ancs ops.toList []) v [] A t && A.length + t.len == ops.size) = true)
   (k : WpT P ops (nrm Q (t.wp P ops Q)) A a w.drew) : (Code.region id ops true).wp P Q a w := by
 simp only [Bool.and_eq_true, beq_iff_eq] at h
 obtain ⟨⟨hns, hc⟩, hl⟩ := h
 refine wp_region_noPanic (wp_region_any hm ?_)
 refine any_of_tree hns ops.size A t _ hl (by simp) (fun i o ho hi => ?_) (chkT_ok t (by simp) hc (fun i hi => by simp [hi])) a _ ?_
 · have := (Array.getElem?_eq_some_iff.1 ho).1
   simp [this] at hi
 · exact wpK_mono (fun a w hk => Tr.wpk_of t a w hk) A a _ (wpK_nrm A a _ k.out)
end
end Go.Proofs.YtminfegoldgjpaaGreatDoor.Gw
