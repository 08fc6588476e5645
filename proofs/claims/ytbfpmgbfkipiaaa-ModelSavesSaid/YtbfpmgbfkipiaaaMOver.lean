import Derived.Test.YtbfpmgbfkipiaaaMAbort
namespace Go.Proofs.Ytbfpmgbfkipiaaa.MD
open Go Go.RowKit Go.Proofs.YtbfpmgbfkipiaaaW.PrintWords Go.Proofs.YtbfpmgbfkipiaaaW.PrintLast Go.Proofs.YtbfpmgbfkipiaaaW.PrintMore Go.Proofs.Ytbfpmgbfkipiaaa.L
set_option linter.unusedVariables false
set_option linter.unusedSimpArgs false
theorem grown_eff0 {W w w' : World} {r : Nat} (e : Eff0 W w) (g : w.grownBy w' (some r)) (hr : W.heap.size ≤ r) : Eff0 W w' :=
  e.trans (Eff.of_grown (S := fun k => k = r) g (fun i hi => by injection hi with hi; exact hi.symm)) (fun i hi => .inr (by rw [hi]; exact hr))
theorem grown_same {w w' : World} {r k : Nat} (g : w.grownBy w' (some r)) (hk : k < w.heap.size) (hne : k ≠ r) : w'.heap[k]? = w.heap[k]? := (Eff.of_grown (S := fun k => k = r) g (fun i hi => by injection hi with hi; exact hi.symm)).block k hk hne
theorem del_perm1 {lf : List Ent} (hn : (lf.map (·.1)).Nodup) {q : Ent} (hq : q ∈ lf) : lf.Perm (q :: delM lf q.1) := by
  have hnd : (q :: delM lf q.1).Nodup := by
    rw [List.nodup_cons]
    exact ⟨fun h => (mem_delM.1 h).2 rfl, (nodup_of_keys hn).sublist List.filter_sublist⟩
  refine (List.perm_ext_iff_of_nodup (nodup_of_keys hn) hnd).2 (fun x => ?_)
  rw [List.mem_cons, mem_delM]
  constructor
  · intro hx
    by_cases he : x.1 = q.1
    · left
      obtain ⟨i, hi⟩ := List.getElem?_of_mem hx
      obtain ⟨j, hj⟩ := List.getElem?_of_mem hq
      have hij := nodup_at hn (a := q.1) (i := i) (j := j) (by rw [List.getElem?_map, hi, ← he]; rfl) (by rw [List.getElem?_map, hj]; rfl)
      subst hij
      rw [hi] at hj
      injection hj
    · exact .inr ⟨hx, he⟩
  · rintro (rfl | ⟨h, _⟩)
    · exact hq
    · exact h
theorem mem_strs {lf : List Ent} {p : ByteArray × Value} (h : p ∈ strs lf) : ∃ q ∈ lf, p = (q.1, .string q.2) := by
  obtain ⟨q, hq, he⟩ := List.mem_map.1 h
  exact ⟨q, hq, he.symm⟩
theorem putE_new {o : List Ent} {k v : ByteArray} (h : ∀ p ∈ o, p.1 ≠ k) : putE o k v = o ++ [(k, v)] := by
  unfold putE
  rw [lookM_none.2 h]
  rfl
theorem over_take (m : List Ent) (l : List Wr) (i : Nat) (h : i < l.length) : overL m (l.take (i + 1)) = stepM (overL m (l.take i)) (l.getD i default) := by
  unfold overL
  rw [List.take_succ_eq_append_getElem h, List.foldl_append]
  simp [List.getD, h]
/-- The first loop: what was copied, what is left. -/
structure Ov1 (W : World) (m : List Ent) (lf o : List Ent) (wr : World) : Prop where
  e : Eff0 W wr
  p : (o ++ lf).Perm m
  hm : MapAt keyStr wr W.heap.size (strs o)
theorem Ov1.next {W : World} {m : List Ent} {lf o : List Ent} {wr : World} (h : Ov1 W m lf o wr) (hn : (m.map (·.1)).Nodup) {mb : Nat} {l0 : List (ByteArray × Value)} (hmb : mb < W.heap.size) {q : Ent} (hq : q ∈ lf) {w' : World} (g : wr.grownBy w' (some (W.heap.size + 1))) (hI : Iter keyStr w' (W.heap.size + 1) mb l0 (L.del (strs lf) q.1)) :
    ∃ w3, (Instr.mapUpdate 24 (.map (some W.heap.size)) (.string q.1) (.string q.2)).run Try.prog w' = .ok () w3 ∧ Ov1 W m (delM lf q.1) (o ++ [q]) w3 ∧ Iter keyStr w3 (W.heap.size + 1) mb l0 (strs (delM lf q.1)) ∧ (delM lf q.1).length < lf.length := by
  have hnn : ((o ++ lf).map (·.1)).Nodup := (h.p.map _).nodup_iff.2 hn
  rw [List.map_append, List.nodup_append] at hnn
  have hM : MapAt keyStr w' W.heap.size (strs o) := h.hm.move (grown_same g h.hm.lt (by omega))
  obtain ⟨w3, hrun, hM3, hg3, hs3⟩ := hM.update (P := Try.prog) Try.underlying24 Try.underlying9 q.1 (.string q.2)
  have hp : L.put (strs o) q.1 (.string q.2) = strs (o ++ [q]) := by
    rw [put_strs, putE_new (fun p hp => hnn.2.2 p.1 (List.mem_map.2 ⟨p, hp, rfl⟩) q.1 (List.mem_map.2 ⟨q, hq, rfl⟩))]
  rw [hp] at hM3
  have e' : Eff0 W w' := grown_eff0 h.e g (by omega)
  have hI3 : Iter keyStr w3 (W.heap.size + 1) mb l0 (L.del (strs lf) q.1) := hI.move (grown_same hg3 (Nat.lt_of_lt_of_le hmb e'.size) (by omega)) (grown_same hg3 hI.lt (by omega))
  rw [del_strs] at hI3
  refine ⟨w3, hrun, ⟨grown_eff0 e' hg3 (Nat.le_refl _), ?_, hM3⟩, hI3, ?_⟩
  · rw [List.append_assoc]
    exact ((del_perm1 hnn.2.1 hq).symm.append_left o).trans h.p
  · have := (del_perm1 hnn.2.1 hq).length_eq
    rw [List.length_cons] at this
    omega
/-- The second loop: what was written over it. -/
structure Ov2 (W : World) (m : List Ent) (wr : World) : Prop where
  e : Eff0 W wr
  hm : ∃ o : List Ent, o.Perm m ∧ MapAt keyStr wr W.heap.size (strs o)
theorem Ov2.del {W : World} {m : List Ent} {wr w' : World} (h : Ov2 W m wr) (hw : w' = wr ∨ ∃ o, w' = wr.alloc o) (k : ByteArray) : ∃ w3, (∀ ty, (Builtin.delete_ #[24, 9] ty #[.map (some W.heap.size), .string k]).run Try.prog w' = .ok (.tuple #[]) w3) ∧ Ov2 W (delM m k) w3 := by
  obtain ⟨he, o, hp, hM⟩ := h
  have e' : Eff0 W w' := by rcases hw with rfl | ⟨ob, rfl⟩; exact he; exact he.alloc _
  have hM' : MapAt keyStr w' W.heap.size (strs o) := by
    rcases hw with rfl | ⟨ob, rfl⟩
    · exact hM
    · exact hM.move (((Eff.refl (fun _ => False) wr).alloc ob).block _ hM.lt id)
  obtain ⟨w3, hrun, hM3, hg3, hs3⟩ := hM'.drop (P := Try.prog) Try.underlying24 Try.underlying9 k 0
  rw [del_strs] at hM3
  exact ⟨w3, fun ty => hrun, grown_eff0 e' hg3 (Nat.le_refl _), _, del_perm' hp k, hM3⟩
theorem Ov2.put {W : World} {m : List Ent} {wr w' : World} (h : Ov2 W m wr) (hm : Rises m) (hw : w' = wr ∨ ∃ o, w' = wr.alloc o) (k v : ByteArray) : ∃ w3, (Instr.mapUpdate 24 (.map (some W.heap.size)) (.string k) (.string v)).run Try.prog w' = .ok () w3 ∧ Ov2 W (insM m k v) w3 := by
  obtain ⟨he, o, hp, hM⟩ := h
  have e' : Eff0 W w' := by rcases hw with rfl | ⟨ob, rfl⟩; exact he; exact he.alloc _
  have hM' : MapAt keyStr w' W.heap.size (strs o) := by
    rcases hw with rfl | ⟨ob, rfl⟩
    · exact hM
    · exact hM.move (((Eff.refl (fun _ => False) wr).alloc ob).block _ hM.lt id)
  obtain ⟨w3, hrun, hM3, hg3, hs3⟩ := hM'.update (P := Try.prog) Try.underlying24 Try.underlying9 k (.string v)
  rw [put_strs] at hM3
  exact ⟨w3, hrun, grown_eff0 e' hg3 (Nat.le_refl _), _, put_perm hp hm k v, hM3⟩
set_option maxHeartbeats 1600000 in
set_option maxRecDepth 100000 in
theorem over_calls (b0 : Nat) (s : Mod) (W : World) (F : Nat → Prop) (mb : Nat) (A : Option Addr) (c : Nat) (l : List Wr) (h : (ModAt b0 s).on W F) (hmb : s.mm = some mb) (hs : Rises s.m) (hC : Kd.C kdW W A l.length l) (hl : l.length < 900000) :
    Calls Try.prog 22 #[.pointer (some ⟨b0, 0, none⟩), .slice A l.length c] W fun e w' => e = .returned (.map (some W.heap.size)) ∧ Ov2 W (overL s.m l) w' := by
  obtain ⟨c0, c1, f⟩ := ModAt.cells h
  rw [hmb] at c0
  obtain ⟨F1, ⟨l', hp, h1⟩, _⟩ := ModAt.strs h
  rw [hmb] at h1
  have hM0 : MapAt keyStr W mb (strs l') := h1.1
  have hlt := hM0.lt
  have hn : (s.m.map (·.1)).Nodup := hs.nodup
  have hM1 : MapAt keyStr (W.alloc (.map #[] 0)) mb (strs l') := hM0.move (((Eff.refl (fun _ => False) W).alloc _).block _ hlt id)
  have hmm := @run_makeMap Try.prog
  have A0 := Aside0.mk (And.intro hp (And.intro hn (And.intro hs (And.intro hlt hC))))
  obtain ⟨m, hm0⟩ : ∃ m, m = s.m := ⟨_, rfl⟩
  rw [← hm0] at A0 ⊢
  have hb : b0 < W.heap.size := World.block_lt_of_cell? _ _ c0
  have hsz : (W.alloc (.map #[] 0)).heap.size = W.heap.size + 1 := by simp
  clear h hmb hs hC hp hn h1 hM0 hm0 c1 f
  go_enter Try.func22, Try.ntmps22
  go_wp2_with (at_range; refine wpList_range_map rfl (.tmp 14) rfl rfl hM1 Try.underlying24 ?_; intro o' hI; rw [hsz] at hI; rw [hsz])
  go_frame
  go_loopg [] l'.length (fun k wr => ∃ (lf o : List Ent), Iter keyStr wr (W.heap.size + 1) mb (strs l') (strs lf) ∧ lf.length ≤ k ∧ Aside0 (Ov1 W m lf o wr))
  case atStart =>
    refine ⟨l', [], hI, Nat.le_refl _, Aside0.mk ⟨((Eff.refl _ _).alloc _).alloc _, A0.out.1, ?_⟩⟩
    exact (MapAt.made keyStr W).move (((Eff.refl (fun _ => False) _).alloc _).block _ (by simp) id)
  case round =>
    obtain ⟨lf, o, hI, hk, A1⟩ := hrel
    go_wp2_with (at_next; refine wpList_next_map rfl (.tmp 15) rfl rfl hI ?_ ?_)
    · intro h0
      have hlf : lf = [] := by cases lf with | nil => rfl | cons _ _ => cases h0
      subst hlf
      have hpm := A1.out.p
      rw [List.append_nil] at hpm
      have A2 := Aside0.mk (Ov2.mk A1.out.e ⟨o, hpm, A1.out.hm⟩)
      clear h0 hI hpm A1 hM1 hk
      go_wp2
      go_loopg [26] l.length (fun k s26 wx => ∃ i : Nat, s26 = .int .i64 i ∧ i + k = l.length ∧ Aside0 (Ov2 W (overL m (l.take i)) wx))
      case atStart => exact ⟨0, rfl, by omega, A2⟩
      case round =>
        obtain ⟨i, rfl, hik, A3⟩ := hrel
        by_cases hi : i < l.length
        · have p1 : ((i : Int) < (l.length : Int)) = True := eq_true (by omega)
          obtain ⟨ad, ea, x0, x1, x2⟩ := at_W (Kd.C_below A0.out.2.2.2.2 A3.out.e.below0) i hi
          subst ea
          have T := Aside0.mk (over_take m l i hi)
          have R := Aside0.mk (rises_overL A0.out.2.2.1 (l.take i))
          generalize l.getD i default = w at *
          obtain ⟨wk, wv, wg⟩ := w
          dsimp only at x0 x1 x2
          cases wg with
          | true =>
            obtain ⟨w3, hd, A4⟩ := Ov2.del A3.out (.inr ⟨.cells #[.string wk, .string wv, .bool true] 58, rfl⟩) wk
            have A5 := Aside0.mk A4
            clear A4
            go_wp2
            go_roundg (gk - 1)
            case measure => omega
            case rel =>
              refine ⟨i + 1, by simp, by omega, Aside0.mk ?_⟩
              rw [T.out]
              exact A5.out
          | false =>
            obtain ⟨w3, hd, A4⟩ := Ov2.put A3.out R.out (.inr ⟨.cells #[.string wk, .string wv, .bool false] 58, rfl⟩) wk wv
            have A5 := Aside0.mk A4
            clear A4
            go_wp2
            go_roundg (gk - 1)
            case measure => omega
            case rel =>
              refine ⟨i + 1, by simp, by omega, Aside0.mk ?_⟩
              rw [T.out]
              exact A5.out
        · have p1 : ((i : Int) < (l.length : Int)) = False := eq_false (by omega)
          obtain rfl : i = l.length := by omega
          go_wp2
          go_ret
          refine ⟨rfl, ?_⟩
          have := A3.out
          rwa [List.take_length] at this
    · intro k0 v0 w' hp hI' hg hs hen
      obtain ⟨q, hq, he⟩ := mem_strs hp
      obtain ⟨rfl, rfl⟩ := Prod.mk.inj he
      clear he
      obtain ⟨w3, hrun, A4, hI3, hlen⟩ := Ov1.next A1.out A0.out.2.1 A0.out.2.2.2.1 hq hg hI'
      have hen2 : (Instr.entry (.pointer (some ⟨W.heap.size + 1, 0, none⟩))).run Try.prog w' = .ok (.tuple #[.string q.1, .string q.2]) w' := hen
      have A5 := Aside0.mk (And.intro A4 (And.intro hI3 (And.intro hlen hk)))
      clear hp hI' hg hs hen hq A4 hI3 hlen hk hI
      rw [show keyStr.enc q.1 = .string q.1 from rfl]
      generalize delM lf q.1 = lf' at *
      generalize o ++ [q] = o2 at *
      obtain ⟨qk, qv⟩ := q
      dsimp only at hrun hen2 ⊢
      go_wp2
      go_roundg (gk - 1)
      case measure => have := A5.out.2.2; omega
      case rel => exact ⟨lf', o2, A5.out.2.1, by have := A5.out.2.2; omega, Aside0.mk A5.out.1⟩
end Go.Proofs.Ytbfpmgbfkipiaaa.MD
