/- The law PermBack, as a call. -/
import Derived.Test.YtbgfpacjoneaeaaDoorBack1
import Derived.Test.YtbgfpacjoneaeaaDoorText3
namespace Go.Proofs.YtbgfpacjoneaeaaDoor
open Go.Loom
set_option maxRecDepth 100000
def cParseK : Con := con2 .str (.int .i64) fun s n => (.p (s.size ≤ 1000000 ∧ (parR s n).2 = (0, 0)), .tup [.c (.sl 0 0 (parR s n).1.length 1), .agg [.int .i64 0, .int .i64 0]], [obI (parR s n).1])
theorem parseK_sem (s : ByteArray) (n : Int) (h : s.size ≤ 1000000 ∧ (parR s n).2 = (0, 0)) : FnSem Tryd.prog 19 [sT s, nI n] [] (.tup [.c (.sl 0 0 (parR s n).1.length 1), .agg [.int .i64 0, .int .i64 0]]) [obI (parR s n).1] := by
 have := parse_sem s h.1 n
 unfold prA at this
 rw [h.2] at this
 exact this
theorem cParseK_ok : ConOk Tryd.prog 19 cParseK := con2_ok (by kernel_rfl) fun s n h => parseK_sem s n h
def cTxK : Con := con1 dI fun a => (.p (checkE (show List Int from a) = 0), txt (txR (rA (bigs (cyclesL a)))) 0, [])
theorem txK_sem (a : List Int) (h : checkE a = 0) : FnSem Tryd.prog 22 [lsI a] [] (txt (txR (rA (bigs (cyclesL a)))) 0) [] := by
 have := ptxt_sem a
 rwa [if_pos h, cycN, h, orNilL_ok] at this
theorem cTxK_ok : ConOk Tryd.prog 22 cTxK := con1_ok (by kernel_rfl) fun a h => txK_sem a h
def cCycK : Con := con1 dI fun a => (.p (checkE (show List Int from a) = 0), prC (bigs (cyclesL a)) 0, [])
theorem cycK_sem (a : List Int) (h : checkE a = 0) : FnSem Tryd.prog 23 [lsI a] [] (prC (bigs (cyclesL a)) 0) [] := by
 have := pcyc_sem a
 rwa [cycN, h, orNilL_ok] at this
theorem cCycK_ok : ConOk Tryd.prog 23 cCycK := con1_ok (by kernel_rfl) fun a h => cycK_sem a h
noncomputable def gBk : Gam := [(11, cLives), (13, cPick), (21, cPermF), (22, cTxK), (19, cParseK), (23, cCycK), (16, cSame), (17, cOne), (24, cDec), (25, cFine), (26, cMul)]
theorem gBk_ok : GamOk Tryd.prog gBk := gamOk_cons cLives_ok (gamOk_cons cPick_ok (gamOk_cons cPermF_ok (gamOk_cons cTxK_ok (gamOk_cons cParseK_ok (gamOk_cons cCycK_ok (gamOk_cons cSame_ok (gamOk_cons cKOne_ok (gamOk_cons cDec_ok (gamOk_cons cFine_ok (gamOk_cons cKMul_ok gamOk_nil))))))))))
abbrev liveBk : List (List Nat × List Nat) := [([0, 1, 0, 1, 1, 1, 1, 1, 1, 1, 1, 1, 1], [1, 5, 10, 12, 13]), ([0, 1, 0, 1, 0, 0, 1, 0, 0, 1, 0, 1, 1, 1, 1, 1, 1, 1, 1, 1, 1], [1, 5, 10, 12, 13, 14, 15])]
noncomputable def sBk : Site := mkSite Tryd.prog gBk Tryd.f5 0 liveBk
theorem bytes_pack : ∀ {l : List Int}, (∀ x ∈ l, 0 ≤ x ∧ x < 256) → bytesI (packI l) = l := by
 intro l h
 have : l.map ((fun b : UInt8 => (b.toNat : Int)) ∘ fun n : Int => UInt8.ofNat n.toNat) = l := by
  conv => rhs; rw [← List.map_id l]
  refine List.map_congr_left fun x hx => ?_
  have := h x hx
  simp only [Function.comp, id, UInt8.toNat_ofNat']
  omega
 unfold packI bytesI
 simp only [List.map_map, this]
theorem rX_byte : ∀ (c : List Int) (b : Bool), ∀ x ∈ rX b c, 0 ≤ x ∧ x < 256
 | [], b, x, h => by simp only [rX, List.mem_singleton] at h; omega
 | y :: c, b, x, h => by
   rw [rX] at h
   rcases List.mem_append.1 h with h | h
   · cases b
     · simp at h
     · simp at h; omega
   · rcases List.mem_append.1 h with h | h
     · exact byte_range h
     · exact rX_byte c true x h
theorem rA_byte : ∀ (l : List (List Int)), ∀ x ∈ rA l, 0 ≤ x ∧ x < 256
 | [], x, h => by simp [rA] at h
 | c :: l, x, h => by
   rw [rA] at h
   rcases List.mem_cons.1 h with rfl | h
   · omega
   · rcases List.mem_append.1 h with h | h
     · exact rX_byte c false x h
     · exact rA_byte l x h
theorem rA_ge : ∀ (l : List (List Int)), l.length ≤ (rA l).length
 | [] => Nat.le_refl _
 | c :: l => by
   have := rA_ge l
   rw [rA, List.length_cons, List.length_cons, List.length_append]
   omega
theorem flat_app : ∀ (l m : List (List Int)), flat (l ++ m) = flat l ++ flat m
 | [], _ => rfl
 | c :: l, m => by rw [List.cons_append, flat, flat, flat_app l m, List.append_assoc]
theorem flat_take : ∀ (l : List (List Int)) (i : Nat), i < l.length → flat (l.take (i + 1)) = flat (l.take i) ++ l.getD i []
 | [], _, h => by simp at h
 | c :: l, 0, _ => by simp [flat]
 | c :: l, i + 1, h => by
   rw [List.take_succ_cons, List.take_succ_cons, flat, flat, flat_take l i (by simpa using h), List.append_assoc]
   rfl
theorem flat_apart {l : List (List Int)} (h : (flat l).Nodup) {i : Nat} (hi : i < l.length) : ∀ x ∈ l.getD i [], x ∉ flat (l.take i) := by
 intro x hx hx2
 rw [← List.take_append_drop (i + 1) l, flat_app, flat_take l i hi, List.nodup_append] at h
 exact (List.nodup_append.1 h.1).2.2 x hx2 x hx rfl
theorem perm_goes {a c q : List Int} (h : PermL a) (hq : q.length = a.length) (hc : IsCyc a c) (gq : Goes2 a c q) : PermL q := by
 have hin : ∀ x ∈ c, nx a x ∈ c := fun x hx => by
  obtain ⟨i, hi, e⟩ := mem_getD hx
  rw [← e, ← cyc_next hc hi]
  exact getD_mem (Nat.mod_lt _ (by omega))
 refine ⟨fun x hx => ?_, nodup_of_getD fun i j hi hj e => ?_⟩
 · obtain ⟨i, hi, e⟩ := mem_getD hx
   have := gq i (by omega) (by omega)
   have e2 : nx q i = x := e
   rw [e2] at this
   rw [this, hq]
   split
   · exact nx_rng h (by omega) (by omega)
   · omega
 · have e : nx q i = nx q j := e
   rw [gq i (by omega) (by omega), gq j (by omega) (by omega)] at e
   by_cases h1 : (i : Int) ∈ c
   · by_cases h2 : (j : Int) ∈ c
     · rw [if_pos h1, if_pos h2] at e
       have := nx_inj h (by omega) (by omega) (by omega) (by omega) e
       omega
     · rw [if_pos h1, if_neg h2] at e
       exact absurd (e ▸ hin _ h1) h2
   · by_cases h2 : (j : Int) ∈ c
     · rw [if_neg h1, if_pos h2] at e
       exact absurd (e ▸ hin _ h2) h1
     · rw [if_neg h1, if_neg h2] at e
       omega
theorem bk_in (a : List Int) (ha : PermL a) (h1 : 1 ≤ a.length) (h64 : a.length ≤ 64) (p : List Int) (hp : p.length = a.length) (i : Nat) (hi : i < (bigs (cyclesL a)).length) (hg : Goes2 a (flat ((bigs (cyclesL a)).take i)) p)
 (hout : ∀ p, p.length = a.length → Goes2 a (flat ((bigs (cyclesL a)).take (i + 1))) p → AtLoop sBk (Says1 (bB true) []) [0, 1, 0, 1, 1, 1, 1, 1, 1, 1, 1, 1, 1] (fr [(1, nI a.length), (5, lsI a), (10, lsL (bigs (cyclesL a))), (12, slI 0 p.length), (13, nI ((i + 1 : Nat) : Int))]) (.ofList [obI p])) :
 ∀ (m k : Nat) (o : List Int), m + k = ((bigs (cyclesL a)).getD i []).length → 40 :: rX true ((bigs (cyclesL a)).getD i []) = o ++ rX true (((bigs (cyclesL a)).getD i []).drop k) →
 AtLoop sBk (Says1 (bB true) []) [0, 1, 0, 1, 0, 0, 1, 0, 0, 1, 0, 1, 1, 1, 1, 1, 1, 1, 1, 1, 1] (fr [(1, nI a.length), (5, lsI a), (10, lsL (bigs (cyclesL a))), (12, slI 0 p.length), (13, nI i), (14, sT (packI o)), (15, nI k)]) (.ofList [obI p])
 | m, k, o, hm, ho => by
   refine atLoop_at gBk_ok (by kernel_rfl) 100 ?_
   refine of_eq (q := let q8 := (bigs (cyclesL a)); let q9 := (List.take p.length (List.drop (0:Nat) p)); let q10 := (0:Int); let q12 := (a.length:Int); let q1 := (parR (packI o ++ ByteArray.mk #[(41 : UInt8)]) q12); let q3 := decide (q10 = q10); let q4 := decide ((↑q1.fst.length : Int) = q12); let q5 := (List.take q1.fst.length (List.drop (0:Nat) q1.fst)); let q6 := (q8.getD i []); let q7 := (q3 && (q3 && true)); let q11 := (↑q6.length : Int); let q2 := decide (q6.getD k q10 < q10); (q10 ≤ (i:Int) ∧ (i:Int) < (↑q8.length : Int)) ∧ i < q8.length ∧ (decide ((k:Int) < q11) = true → (q10 ≤ (i:Int) ∧ (i:Int) < (↑q8.length : Int)) ∧ i < q8.length ∧ (q10 ≤ (k:Int) ∧ (k:Int) < q11) ∧ k < q6.length ∧ (q2 = false → q2 = false) ∧ (q2 = false → q2 = false) ∧ (q2 = false → q10 ≤ (i:Int) ∧ (i:Int) < (↑q8.length : Int)) ∧ (q2 = false → q2 = false) ∧ (q2 = false → i < q8.length) ∧ (q2 = false → q2 = false) ∧ (q2 = false → q2 = false) ∧ (q2 = false → q10 ≤ (k:Int) ∧ (k:Int) < q11) ∧ (q2 = false → q2 = false) ∧ (q2 = false → k < q6.length) ∧ (q2 = false → q2 = false) ∧ (q2 = false → q2 = false) ∧ (q2 = false → q2 = false) ∧ ((bif q2 then true else decide (q12 ≤ q6.getD k q10)) = true → packV [V.c (W.bool false)] = bB true ∧ ([] : List Ob) = []) ∧ ((bif q2 then true else decide (q12 ≤ q6.getD k q10)) = false → (packI o).size + (1:Nat) ≤ (9223372036854775807:Nat) ∧ (q10 ≤ (i:Int) ∧ (i:Int) < (↑q8.length : Int)) ∧ i < q8.length ∧ (q10 ≤ (k:Int) ∧ (k:Int) < q11) ∧ k < q6.length ∧ (q10 ≤ q6.getD k q10 ∧ q6.getD k q10 < (100:Int)) ∧ (packI o ++ ByteArray.mk #[(32 : UInt8)]).size + (decT (q6.getD k q10).toNat).size ≤ (9223372036854775807:Nat) ∧ AtLoop sBk (Says1 (bB true) []) [0, 1, 0, 1, 0, 0, 1, 0, 0, 1, 0, 1, 1, 1, 1, 1, 1, 1, 1, 1, 1] (fr [(1, nI q12), (5, lsI a), (10, lsL q8), (12, slI 0 p.length), (13, nI (i:Int)), (14, A.p (V.c (W.str (packI o ++ ByteArray.mk #[(32 : UInt8)] ++ decT (q6.getD k q10).toNat)))), (15, nI (IntKind.i64.wrap ((k:Int) + (1:Int))))]) (Sto.ofList [obI p]))) ∧ (decide ((k:Int) < q11) = false → (packI o).size + (1:Nat) ≤ (9223372036854775807:Nat) ∧ ((packI o ++ ByteArray.mk #[(41 : UInt8)]).size ≤ (1000000:Nat) ∧ q1.snd = (q10, (0:Nat))) ∧ ((!q7) = false → (!q7) = false) ∧ ((!q7) = false → (!q7) = false) ∧ ((!q7) = false → (!q7) = false) ∧ ((!q7) = false → (!q7) = false) ∧ ((bif !q7 then true else !q4) = false → (bif !q7 then true else !q4) = false) ∧ ((bif !q7 then true else !q4) = false → (bif !q7 then true else !q4) = false) ∧ ((bif !q7 then true else !q4) = false → (0:Nat) + q1.fst.length ≤ q1.fst.length) ∧ ((bif !q7 then true else !q4) = false → q5.length ≤ (1000000:Nat)) ∧ ((bif !q7 then true else !q4) = false → (bif !q7 then true else !q4) = false) ∧ ((bif !q7 then true else !q4) = false → (bif !q7 then true else !q4) = false) ∧ ((bif bif !q7 then true else !q4 then true else !decide ((↑q5.length : Int) = q12 ∧ PermL q5)) = true → packV [V.c (W.bool false)] = bB true ∧ ([] : List Ob) = []) ∧ ((bif bif !q7 then true else !q4 then true else !decide ((↑q5.length : Int) = q12 ∧ PermL q5)) = false → (0:Nat) + q1.fst.length ≤ q1.fst.length ∧ (0:Nat) + p.length ≤ p.length ∧ (q5.length ≤ (1000000:Nat) ∧ Into q5 q9.length) ∧ AtLoop sBk (Says1 (bB true) []) [0, 1, 0, 1, 1, 1, 1, 1, 1, 1, 1, 1, 1] (fr [(1, nI q12), (5, lsI a), (10, lsL q8), (12, A.p (V.c (W.sl 0 0 (mulL q5 q9).length (1:Nat)))), (13, nI (IntKind.i64.wrap ((i:Int) + (1:Int))))]) (Sto.ofList [obI (mulL q5 q9)])))) (by kernel_rfl) ?_
   try simp only [imp_self, true_and, and_true, Nat.zero_add, Bool.cond_true_left, Bool.or_eq_true, Bool.or_eq_false_iff, Bool.and_eq_true, Bool.and_eq_false_imp, Bool.not_eq_true', Bool.not_eq_false', decide_eq_true_eq, decide_eq_false_iff_not, Int.not_lt, Int.not_le, List.drop_zero, List.take_length, Nat.le_refl]
   have C := cyclesL_ok ha
   have hbl := bigs_len (cyclesL a)
   have hcy := cyc_many (check_ok ha h1 h64)
   have hft := flat_take (bigs (cyclesL a)) i hi
   have hap := flat_apart (flat_bigs_nodup C.nd) hi
   obtain ⟨c, hcd⟩ : ∃ c, c = (bigs (cyclesL a)).getD i [] := ⟨_, rfl⟩
   have hcm : c ∈ bigs (cyclesL a) := by rw [hcd, List.getD_eq_getElem?_getD, List.getElem?_eq_getElem hi]; exact List.getElem_mem hi
   rw [← hcd] at hm ho hft hap ⊢
   have hcm' := bigs_in hcm
   have hr := C.rng c hcm'
   have hle := rX_le c true fun x hx => by have := hr x hx; omega
   have hcl : c.length ≤ 64 := by
    have := tot_mem hcm'
    have := C.tot
    omega
   have hR2 := congrArg List.length ho
   rw [List.length_cons, List.length_append] at hR2
   simp only [cat_b, show bytesI { data := #[32] } = [32] by decide, show bytesI { data := #[41] } = [41] by decide, packI_size]
   rcases Nat.lt_or_ge k c.length with hk | hk
   · rw [getD_lt hk, rX, if_pos rfl] at ho
     have hxk := hr _ (getD_mem hk)
     have hd := decT_size (c.getD k 0).toNat (by omega)
     rw [wrap64 (n := (k : Int) + 1) (by omega) (by omega)]
     cases m with
     | zero => omega
     | succ m =>
       have ih := bk_in a ha h1 h64 p hp i hi hg hout m (k + 1) (o ++ [32] ++ bytesI (decT (c.getD k 0).toNat)) (by rw [← hcd]; omega) (by rw [← hcd, ho]; simp)
       refine ⟨by omega, hi, fun _ => ⟨by omega, hi, by omega, hk, fun _ => by omega, fun _ => hi, fun _ => by omega, fun _ => hk, fun h => by omega, fun _ => ⟨by omega, by omega, hi, by omega, hk, by omega, by simp only [List.length_append, List.length_cons, List.length_nil]; omega, ih⟩⟩, fun h => by omega⟩
   · rw [List.drop_eq_nil_of_le hk, rX] at ho
     have hbytes : ∀ x ∈ 40 :: rX true c, 0 ≤ x ∧ x < 256 := fun x hx => by
      rcases List.mem_cons.1 hx with rfl | hx
      · omega
      · exact rX_byte c true x hx
     have hsz := packI_size (40 :: rX true c)
     rw [List.length_cons] at hsz
     obtain ⟨q, hq1, hq2, hq3⟩ := read_one ha h64 hcm (l := bytesI (packI (40 :: rX true c))) (bytes_pack hbytes) ((packI (40 :: rX true c)).size + 1) (by omega)
     have hpar : parR (packI (40 :: rX true c)) a.length = (q, 0, 0) := by
      unfold parR
      rw [if_neg (by omega), if_neg (by omega), Int.toNat_natCast]
      exact hq1
     rw [← ho, hpar, wrap64 (n := (i : Int) + 1) (by omega) (by omega)]
     have hI := C.cyc c hcm'
     have hqp := perm_goes ha hq2 hI hq3
     have hnext := hout (mulL q p) (by rw [mulL_length, hq2]) (by rw [hft]; exact goes_mul hI hq2 hr hap hq3 hg)
     refine ⟨by omega, hi, fun h => by omega, fun _ => ⟨by omega, ⟨by simp; omega, rfl⟩, fun _ => trivial, fun _ => by show q.length ≤ _; omega, fun h => ?_, fun _ => ⟨⟨by show q.length ≤ _; omega, by show Into q _; rw [hp, ← hq2]; exact hqp.1⟩, hnext⟩⟩⟩
     exfalso
     rcases h with (h | h) | h
     · exact Bool.noConfusion (h trivial trivial)
     · exact h (by show (q.length : Int) = _; omega)
     · exact h ⟨by show (q.length : Int) = _; omega, hqp⟩
theorem bk_out (a : List Int) (ha : PermL a) (h1 : 1 ≤ a.length) (h64 : a.length ≤ 64) : ∀ (m i : Nat) (p : List Int), m + i = (bigs (cyclesL a)).length → p.length = a.length → Goes2 a (flat ((bigs (cyclesL a)).take i)) p →
 AtLoop sBk (Says1 (bB true) []) [0, 1, 0, 1, 1, 1, 1, 1, 1, 1, 1, 1, 1] (fr [(1, nI a.length), (5, lsI a), (10, lsL (bigs (cyclesL a))), (12, slI 0 p.length), (13, nI i)]) (.ofList [obI p])
 | m, i, p, hm, hp, hg => by
   refine atLoop_at gBk_ok (by kernel_rfl) 100 ?_
   refine of_eq (q := let q1 := decide ((i:Int) < (↑(bigs (cyclesL a)).length : Int)); (q1 = true → AtLoop sBk (Says1 (bB true) []) [0, 1, 0, 1, 0, 0, 1, 0, 0, 1, 0, 1, 1, 1, 1, 1, 1, 1, 1, 1, 1] (fr [(1, nI (a.length:Int)), (5, lsI a), (10, lsL (bigs (cyclesL a))), (12, slI 0 p.length), (13, nI (i:Int)), (14, A.p (V.c (W.str (ByteArray.mk #[(40 : UInt8)])))), (15, nI (0))]) (Sto.ofList [obI p])) ∧ (q1 = false → (0:Nat) + p.length ≤ p.length ∧ (List.take p.length (List.drop (0:Nat) p)).length ≤ (1000000000:Nat) ∧ packV [V.c (W.bool (decide (List.take p.length (List.drop (0:Nat) p) = a)))] = bB true ∧ ([] : List Ob) = [])) (by kernel_rfl) ?_
   try simp only [true_and, and_true, Nat.zero_add, decide_eq_true_eq, decide_eq_false_iff_not, Int.not_lt, List.drop_zero, List.take_length, Nat.le_refl]
   refine ⟨fun hi => ?_, fun hi => ⟨by omega, ?_⟩⟩
   · cases m with
     | zero => omega
     | succ m =>
       have := bk_in a ha h1 h64 p hp i (by omega) hg (fun p hp hg => bk_out a ha h1 h64 m (i + 1) p (by omega) hp hg) _ 0 [40] rfl rfl
       rw [show packI [40] = { data := #[40] } by decide] at this
       exact this
   · rw [List.take_of_length_le (by omega)] at hg
     rw [decide_eq_true (goes_all ha hp hg)]; rfl
theorem text_back {a : List Int} (ha : PermL a) (h1 : 1 ≤ a.length) (h64 : a.length ≤ 64) : (txR (rA (bigs (cyclesL a)))).size ≤ 1000000 ∧ parR (txR (rA (bigs (cyclesL a)))) a.length = (a, 0, 0) := by
 have C := cyclesL_ok ha
 have hbl := bigs_len (cyclesL a)
 have hcy := cyc_many (check_ok ha h1 h64)
 have ht := C.tot
 have ht2 := tot_bigs (cyclesL a)
 have hle := rA_le (bigs (cyclesL a)) fun c hc x hx => by have := C.rng c (bigs_in hc) x hx; omega
 have hsz := packI_size (rA (bigs (cyclesL a)))
 unfold txR
 by_cases hb : bigs (cyclesL a) = []
 · have e : rA (bigs (cyclesL a)) = [] := by rw [hb]; rfl
   rw [if_pos e]
   have hs : ByteArray.size { data := #[40, 41] } = 2 := by decide
   refine ⟨by omega, ?_⟩
   unfold parR
   rw [if_neg (by omega), if_neg (by omega), Int.toNat_natCast, hs]
   rw [par_read h64 [[]] 3 0 (idL a.length) _ (by simp) (by simp) (by simp [flat]) (by simp) (by simp [flat]) (by decide)]
   have hid := goes_all ha (idL_length _) (by rw [hb]; exact goes_id a)
   show (idL a.length, _, _) = _
   rw [hid]
 · have e : ¬ rA (bigs (cyclesL a)) = [] := fun h => by
    cases hc : bigs (cyclesL a) with
    | nil => exact hb hc
    | cons c l => rw [hc, rA] at h; cases h
   rw [if_neg e]
   refine ⟨by omega, ?_⟩
   unfold parR
   rw [if_neg (by omega), if_neg (by omega), Int.toNat_natCast, bytes_pack (rA_byte _)]
   refine read_back ha h64 rfl _ ?_
   have hge : (bigs (cyclesL a)).length ≤ (rA (bigs (cyclesL a))).length := rA_ge _
   omega
theorem back_sem (l : List Int) (n : Int) : FnSem Tryd.prog 5 [lsI l, nI n] [] (bB true) [] := by
 refine fnSem_at (live := liveBk) gBk_ok Tryd.func5 (by kernel_rfl) (keep := 0) rfl (by kernel_rfl) 200 ?_
 refine of_eq (q := let q0 := IntKind.i64.wrap; let q1 := decide ((0:Int) = (0:Int)); let q4 := (q1 && (q1 && true)); let q5 := ((1:Int) + n % (64:Int)); let q3 := (permN l (q0 q5).toNat (0:Nat)); let q2 := (parR (txR (rA (bigs (cyclesL q3.fst)))) (q0 q5)); let q6 := decide (List.take q2.fst.length (List.drop (0:Nat) q2.fst) = q3.fst); ((!true) = true → packV [V.c (W.bool false)] = bB true ∧ ([] : List Ob) = []) ∧ ((!true) = false → (decide ((100:Int) < (l.length:Int)) = true → packV [V.c (W.bool true)] = bB true ∧ ([] : List Ob) = []) ∧ (decide ((100:Int) < (l.length:Int)) = false → ((1:Int) ≤ (64:Int) ∧ (64:Int) ≤ (4611686018427387904:Int)) ∧ ((0:Int) ≤ (0:Int) ∧ (0:Int) ≤ (900000:Int) ∧ (1:Int) ≤ q0 q5 ∧ q0 q5 ≤ (64:Int)) ∧ checkE q3.fst = (0:Int) ∧ ((txR (rA (bigs (cyclesL q3.fst)))).size ≤ (1000000:Nat) ∧ q2.snd = ((0:Int), (0:Nat))) ∧ checkE q3.fst = (0:Int) ∧ ((!q1) = false → (!q1) = false) ∧ ((!q1) = false → (!q1) = false) ∧ ((!q1) = false → (!q1) = false) ∧ ((bif !q1 then true else !q4) = false → (bif !q1 then true else !q4) = false) ∧ ((bif !q1 then true else !q4) = false → (bif !q1 then true else !q4) = false) ∧ ((bif bif !q1 then true else !q4 then true else !q1) = false → (bif bif !q1 then true else !q4 then true else !q1) = false) ∧ ((bif bif !q1 then true else !q4 then true else !q1) = false → (bif bif !q1 then true else !q4 then true else !q1) = false) ∧ ((bif bif !q1 then true else !q4 then true else !q1) = false → (0:Nat) + q2.fst.length ≤ q2.fst.length) ∧ ((bif bif !q1 then true else !q4 then true else !q1) = false → (List.take q2.fst.length (List.drop (0:Nat) q2.fst)).length ≤ (1000000000:Nat)) ∧ ((bif bif !q1 then true else !q4 then true else !q1) = false → (bif bif !q1 then true else !q4 then true else !q1) = false) ∧ ((bif bif !q1 then true else !q4 then true else !q1) = false → (bif bif !q1 then true else !q4 then true else !q1) = false) ∧ ((bif bif bif !q1 then true else !q4 then true else !q1 then true else !q6) = true → packV [V.c (W.bool false)] = bB true ∧ ([] : List Ob) = []) ∧ ((bif bif bif !q1 then true else !q4 then true else !q1 then true else !q6) = false → ((0:Int) ≤ q0 q5 ∧ q0 q5 ≤ (1000000:Int)) ∧ AtLoop (mkSite Tryd.prog gBk Tryd.f5 (0:Nat) liveBk) (Says1 (bB true) []) [0, 1, 0, 1, 1, 1, 1, 1, 1, 1, 1, 1, 1] (fr [(1, nI (q0 q5)), (5, lsI q3.fst), (10, lsL (bigs (cyclesL q3.fst))), (12, A.p (V.c (W.sl 0 0 (q0 q5).toNat (1:Nat)))), (13, nI (0))]) (Sto.ofList [obI (idL (q0 q5).toNat)]))))) (by kernel_rfl) ?_
 try simp only [imp_self, true_and, and_true, Nat.zero_add, Bool.cond_true_left, Bool.or_eq_true, Bool.or_eq_false_iff, Bool.and_eq_true, Bool.and_eq_false_imp, Bool.not_eq_true', Bool.not_eq_false', decide_eq_true_eq, decide_eq_false_iff_not, Int.not_lt, List.drop_zero, List.take_length, Nat.le_refl, Int.le_refl]
 have h1 := Int.emod_nonneg n (b := 64) (by omega)
 have h2 := Int.emod_lt_of_pos n (b := 64) (by omega)
 rw [wrap64 (n := 1 + n % 64) (by omega) (by omega)]
 obtain ⟨N, hN⟩ : ∃ N : Nat, 1 + n % 64 = (N : Int) := ⟨(1 + n % 64).toNat, by omega⟩
 rw [hN, Int.toNat_natCast]
 have P := permN_ok l N 0
 generalize (permN l N 0).1 = a at P ⊢
 obtain ⟨hp, rfl⟩ := P
 have hck := check_ok hp (by omega) (by omega)
 obtain ⟨hs, hb⟩ := text_back hp (by omega) (by omega)
 rw [hb]
 refine ⟨(fun h => by cases h), fun _ => ⟨fun _ => rfl, fun _ => ⟨by omega, by omega, hck, ⟨hs, rfl⟩, hck, fun _ => by show a.length ≤ _; omega, fun h => ?_, fun _ => ⟨by omega, ?_⟩⟩⟩⟩
 · exfalso
   rcases h with ((h | h) | h) | h
   · exact h trivial
   · exact Bool.noConfusion (h trivial trivial)
   · exact h trivial
   · exact h rfl
 · have := bk_out a hp (by omega) (by omega) _ 0 (idL a.length) rfl (idL_length _) (goes_id a)
   rw [idL_length] at this
   exact this
theorem back_all : ForArgs (fun args => FnSem Tryd.prog 5 args [] (dat .bool true) []) [dI, .int .i64] [] := fun l _ n _ => back_sem l n
end Go.Proofs.YtbgfpacjoneaeaaDoor
